/- Parts of the proof, one behind the other: PvRead PvHex PvDigits PmPre PvOf PvPlain3 PdSet PdCat PdSch PdEntry PdRows PdOf PdRef PvRef PvRef2 PvRef3 PvRef4 PvLaws PvLaws2 PvLaws3. Conditions: none beyond what each theorem says. -/
import Derived.Test.YtnkkhkpkipckiaaDoorYShelf
import Derived.Test.YtnkkhkpkipckiaaDoorZ4
section
namespace Go.Proofs.YtnkkhkpkipckiaaDoor.Pm
open Go.RowKit K
set_option linter.unusedVariables false
set_option linter.unusedSimpArgs false
set_option maxRecDepth 100000
def optP (o : Option (List UInt8)) : PV := match o with
 | none => .tup [pStr (tx []), pBool false]
 | some t => .tup [pStr (tx t), pBool true]
theorem SIdx.same {s s' : ByteArray} {n : Int} {K : Int → Prop} (h : s = s') (k : SIdx s' n K) : SIdx s n K := by rw [h]; exact k
theorem tail_tx (l : List UInt8) : (tx l).extract (1 : Int).toNat ((l.length : Nat) : Int).toNat = tx (l.drop 1) := by
 rw [extract_tx]
 exact congrArg tx (List.take_of_length_le (by rw [List.length_drop]; omega))
theorem inner_tx (s : List UInt8) : (tx s).extract (1 : Int).toNat (((s.length : Nat) : Int) - 1).toNat = tx (innerL s) := by
 rw [extract_tx]
 unfold innerL
 congr 2
 omega
theorem headD_get (s : List UInt8) : s.headD 0 = s.getD 0 0 := by cases s <;> rfl
theorem lastD_get {s : List UInt8} (h : s ≠ []) : s.getLastD 0 = s.getD (s.length - 1) 0 := by
 rw [List.getLastD_eq_getLast?, List.getLast?_eq_getElem?, List.getD_eq_getElem?_getD]
def thenL (t : List UInt8) (o : Option (List UInt8)) : Option (List UInt8) := o.map (t ++ ·)
theorem p_Quoted (s : List UInt8) (hs : s.length ≤ 140737488351232) : Pure Tryd.prog 38 [pStr (tx s)] (optP (quotL s)) := by
 have hz := tx_size s
 refine pure_of Tryd.func38 (by rfl) rfl (by kernel_rfl) (by rfl) ?_
 unfold quotL
 by_cases h2 : s.length < 2
 ·rw [if_pos (.inl h2)]
  ((conv => whnf); repeat' ((first | (with_reducible first | apply a_ | apply b_ | apply c_) | ((with_reducible first | apply d_ | apply e_ | apply f_ | apply g_); focus first | omega | (simp only [q_] <;> omega)) | ((with_reducible first | apply i_ | apply h_); focus first | omega | (simp only [q_] <;> omega)) | ((with_reducible apply h_); focus first | decide | kernel_rfl) | refine BCase.t (by decide) ?_ | refine BCase.f (by decide) ?_ | with_reducible first | apply l_ | apply m_ | apply n_ | apply o_ | refine p_ (fun _ => ?_) (fun _ => ?_)) <;> (conv => whnf)))
  all_goals exact Ret.eq rfl
 ·have hne : s ≠ [] := fun e => by rw [e] at h2; simp at h2
  have l0 : 0 < s.length := by omega
  have l1 : s.length - 1 < s.length := by omega
  have e1 : ((tx s).size : Int) - 1 = ((s.length - 1 : Nat) : Int) := by omega
  have d39 : ∀ c : UInt8, c = 39 ↔ ((c.toNat : Nat) : Int) = 39 := fun c => ⟨fun e => by rw [e]; rfl, fun e => by rw [← u8_back c, show c.toNat = 39 by omega]; rfl⟩
  by_cases c1 : s.headD 0 = 39
  ·have n1 := c1
   rw [headD_get, d39] at n1
   by_cases c2 : s.getLastD 0 = 39
   ·rw [if_neg (fun h => h.elim h2 fun h => h.elim (fun x => x c1) (fun x => x c2))]
    rw [lastD_get hne, d39] at c2
    have hin : (innerL s).length ≤ s.length := by unfold innerL; rw [List.length_take, List.length_drop]; omega
    ((conv => whnf); repeat' ((first | (with_reducible first | apply a_ | apply b_ | apply c_) | ((with_reducible first | apply d_ | apply e_ | apply f_ | apply g_); focus first | omega | (simp only [q_] <;> omega)) | ((with_reducible first | apply i_ | apply h_); focus first | omega | (simp only [q_] <;> omega)) | ((with_reducible apply h_); focus first | decide | kernel_rfl) | refine BCase.t (by decide) ?_ | refine BCase.f (by decide) ?_ | (first | refine SIdx.tx 0 rfl l0 ?_ | refine SIdx.tx (s.length - 1) e1 l1 ?_) | with_reducible first | apply l_ | apply m_ | apply n_ | apply o_ | refine p_ (fun _ => ?_) (fun _ => ?_)) <;> (conv => whnf)))
    refine LoopC.mk (List UInt8 × List UInt8) (fun x => [(4, .d (.app 60 5 1 (byteRows x.2))), (5, pStr (tx x.1))]) (fun _ => [(60, .tail 5 1)]) [60] (fun x => x.1.length + x.2.length ≤ s.length ∧ unq (innerL s) = thenL x.2 (unq x.1)) (fun x => x.1.length) (innerL s, []) ⟨by show (innerL s).length + 0 ≤ _; omega, by show _ = thenL [] _; unfold thenL; cases unq (innerL s) <;> rfl⟩ ?start ?round
    case start => exact ⟨[], rfl, rfl, ⟨⟨rfl, rfl, Nat.zero_lt_succ _, rfl, rfl⟩, PLe.text (inner_tx s), trivial⟩, ⟨rfl, Nat.zero_lt_succ _⟩, trivial⟩
    case round =>
     rintro ⟨r, t⟩ ⟨hl, hq⟩
     have hl : r.length + t.length ≤ s.length := hl
     have hq : unq (innerL s) = thenL t (unq r) := hq
     have hrz := tx_size r
     have hbl := byteRows_ln t
     cases r with
     | nil =>
      have hem : ¬ ¬ tx ([] : List UInt8) = ⟨#[]⟩ := not_not_intro rfl
      have hq : unq (innerL s) = some t := by rw [hq]; show some (t ++ []) = _; rw [List.append_nil]
      rw [hq]
      ((conv => whnf); repeat' ((first | (with_reducible first | apply a_ | apply b_ | apply c_) | ((with_reducible first | apply d_ | apply e_ | apply f_ | apply g_); focus first | omega | (simp only [q_] <;> omega)) | ((with_reducible first | apply i_ | apply h_); focus first | omega | (simp only [q_] <;> omega)) | ((with_reducible apply h_); focus first | decide | kernel_rfl) | refine BCase.t (by decide) ?_ | refine BCase.f (by decide) ?_ | (refine BCase.df hem ?_) | with_reducible first | apply l_ | apply m_ | apply n_ | apply o_ | refine p_ (fun _ => ?_) (fun _ => ?_)) <;> (conv => whnf)))
      refine Bytes.mk t rfl ?_
      ((conv => whnf); repeat' ((first | (with_reducible first | apply a_ | apply b_ | apply c_) | ((with_reducible first | apply d_ | apply e_ | apply f_ | apply g_); focus first | omega | (simp only [q_] <;> omega)) | ((with_reducible first | apply i_ | apply h_); focus first | omega | (simp only [q_] <;> omega)) | ((with_reducible apply h_); focus first | decide | kernel_rfl) | refine BCase.t (by decide) ?_ | refine BCase.f (by decide) ?_ | with_reducible first | apply l_ | apply m_ | apply n_ | apply o_ | refine p_ (fun _ => ?_) (fun _ => ?_)) <;> (conv => whnf)))
      exact Ret.eq rfl
     | cons b r =>
      have hne2 : ¬ tx (b :: r) = ⟨#[]⟩ := fun e => by rw [tx_empty] at e; cases e
      have ht : (tx (b :: r)).extract (1 : Int).toNat (((b :: r).length : Nat) : Int).toNat = tx r := tail_tx (b :: r)
      rw [List.length_cons] at hl
      by_cases hb : b = 39
      ·have nb : (((b :: r).getD 0 0).toNat : Int) = 39 := (d39 b).1 hb
       rw [hb] at hq
       cases r with
       | nil =>
        have he : (tx [b]).extract (1 : Int).toNat (([b].length : Nat) : Int).toNat = ⟨#[]⟩ := ht
        rw [unq_1] at hq
        have hq : unq (innerL s) = none := hq
        rw [hq]
        ((conv => whnf); repeat' ((first | (with_reducible first | apply a_ | apply b_ | apply c_) | ((with_reducible first | apply d_ | apply e_ | apply f_ | apply g_); focus first | omega | (simp only [q_] <;> omega)) | ((with_reducible first | apply i_ | apply h_); focus first | omega | (simp only [q_] <;> omega)) | ((with_reducible apply h_); focus first | decide | kernel_rfl) | refine BCase.t (by decide) ?_ | refine BCase.f (by decide) ?_ | (refine BCase.dt hne2 ?_) | (refine SIdx.tx (l := [b]) 0 rfl (by simp) ?_) | (refine BCase.dt he ?_) | with_reducible first | apply l_ | apply m_ | apply n_ | apply o_ | refine p_ (fun _ => ?_) (fun _ => ?_)) <;> (conv => whnf)))
        all_goals exact Ret.eq rfl
       | cons c r' =>
        have he : ¬ (tx (b :: c :: r')).extract (1 : Int).toNat (((b :: c :: r').length : Nat) : Int).toNat = ⟨#[]⟩ := fun e => by rw [ht, tx_empty] at e; cases e
        rw [unq_q] at hq
        by_cases hc : c = 39
        ·have nc : (((c :: r').getD 0 0).toNat : Int) = 39 := (d39 c).1 hc
         rw [if_pos hc] at hq
         have hX : ∀ z : ByteArray, z = tx (c :: r') → z.extract (1 : Int).toNat ((z.size : Nat) : Int).toNat = tx r' := by
          rintro z rfl
          exact tail_tx (c :: r')
         have hN : ∀ z : ByteArray, z = tx (c :: r') → (0 : Int) ≤ 1 ∧ (1 : Int) ≤ (z.size : Int) ∧ (z.size : Int) ≤ (z.size : Int) := by
          rintro z rfl
          refine ⟨by decide, ?_, Int.le_refl _⟩
          show (1 : Int) ≤ ((c :: r').length : Nat)
          rw [List.length_cons]; omega
         ((conv => whnf); repeat' ((first | (with_reducible first | apply a_ | apply b_ | apply c_) | ((with_reducible first | apply d_ | apply e_ | apply f_ | apply g_); focus first | omega | (simp only [q_] <;> omega)) | ((with_reducible first | apply i_ | apply h_); focus first | omega | (simp only [q_] <;> omega)) | ((with_reducible apply h_); focus first | decide | kernel_rfl) | refine BCase.t (by decide) ?_ | refine BCase.f (by decide) ?_ | (refine BCase.dt hne2 ?_) | (refine BCase.df he ?_) | (refine SIdx.tx (l := b :: c :: r') 0 rfl (by simp) ?_) | (refine SIdx.same ht (SIdx.tx (l := c :: r') 0 rfl (by simp) ?_)) | (refine Need.by 1 rfl (by simp only [List.length_singleton]; omega) ?_) | (refine Need.mk (hN _ ht) ?_) | with_reducible first | apply l_ | apply m_ | apply n_ | apply o_ | refine p_ (fun _ => ?_) (fun _ => ?_)) <;> (conv => whnf)))
         rw [List.length_cons] at hl
         refine ⟨(r', t ++ [c]), ⟨by show r'.length + (t ++ [c]).length ≤ _; rw [List.length_append, List.length_singleton]; omega, ?_⟩, by show r'.length < (b :: c :: r').length; rw [List.length_cons, List.length_cons]; omega, [(60, 47)], rfl, rfl, ⟨⟨rfl, rfl, rfl, rfl, ?_⟩, PLe.text (hX _ ht), trivial⟩, ⟨rfl, rfl, rfl⟩, trivial⟩
         ·show _ = thenL (t ++ [c]) (unq r')
          rw [hq, hc]; unfold thenL
          cases unq r' <;> simp
         ·show _ = byteRows (t ++ [c])
          rw [byteRows_app]; rfl
        ·have nc : ¬ (((c :: r').getD 0 0).toNat : Int) = 39 := fun e => hc ((d39 c).2 e)
         rw [if_neg hc] at hq
         have hq : unq (innerL s) = none := hq
         rw [hq]
         ((conv => whnf); repeat' ((first | (with_reducible first | apply a_ | apply b_ | apply c_) | ((with_reducible first | apply d_ | apply e_ | apply f_ | apply g_); focus first | omega | (simp only [q_] <;> omega)) | ((with_reducible first | apply i_ | apply h_); focus first | omega | (simp only [q_] <;> omega)) | ((with_reducible apply h_); focus first | decide | kernel_rfl) | refine BCase.t (by decide) ?_ | refine BCase.f (by decide) ?_ | (refine BCase.dt hne2 ?_) | (refine BCase.df he ?_) | (refine SIdx.tx (l := b :: c :: r') 0 rfl (by simp) ?_) | (refine SIdx.same ht (SIdx.tx (l := c :: r') 0 rfl (by simp) ?_)) | with_reducible first | apply l_ | apply m_ | apply n_ | apply o_ | refine p_ (fun _ => ?_) (fun _ => ?_)) <;> (conv => whnf)))
         all_goals exact Ret.eq rfl
      ·rw [unq_o hb] at hq
       have nb : ¬ (((b :: r).getD 0 0).toNat : Int) = 39 := fun e => hb ((d39 b).2 e)
       ((conv => whnf); repeat' ((first | (with_reducible first | apply a_ | apply b_ | apply c_) | ((with_reducible first | apply d_ | apply e_ | apply f_ | apply g_); focus first | omega | (simp only [q_] <;> omega)) | ((with_reducible first | apply i_ | apply h_); focus first | omega | (simp only [q_] <;> omega)) | ((with_reducible apply h_); focus first | decide | kernel_rfl) | refine BCase.t (by decide) ?_ | refine BCase.f (by decide) ?_ | (refine BCase.dt hne2 ?_) | (refine SIdx.tx (l := b :: r) 0 rfl (by simp) ?_) | (refine Need.by 1 rfl (by simp only [List.length_singleton]; omega) ?_) | with_reducible first | apply l_ | apply m_ | apply n_ | apply o_ | refine p_ (fun _ => ?_) (fun _ => ?_)) <;> (conv => whnf)))
       refine ⟨(r, t ++ [b]), ⟨by show r.length + (t ++ [b]).length ≤ _; rw [List.length_append, List.length_singleton]; omega, ?_⟩, by show r.length < (b :: r).length; rw [List.length_cons]; omega, [(60, 47)], rfl, rfl, ⟨⟨rfl, rfl, rfl, rfl, ?_⟩, PLe.text ht, trivial⟩, ⟨rfl, rfl, rfl⟩, trivial⟩
       ·show _ = thenL (t ++ [b]) (unq r)
        rw [hq]; unfold thenL
        cases unq r <;> simp
       ·show _ = byteRows (t ++ [b])
        rw [byteRows_app]; rfl
   ·rw [if_pos (.inr (.inr c2))]
    rw [lastD_get hne, d39] at c2
    ((conv => whnf); repeat' ((first | (with_reducible first | apply a_ | apply b_ | apply c_) | ((with_reducible first | apply d_ | apply e_ | apply f_ | apply g_); focus first | omega | (simp only [q_] <;> omega)) | ((with_reducible first | apply i_ | apply h_); focus first | omega | (simp only [q_] <;> omega)) | ((with_reducible apply h_); focus first | decide | kernel_rfl) | refine BCase.t (by decide) ?_ | refine BCase.f (by decide) ?_ | (first | refine SIdx.tx 0 rfl l0 ?_ | refine SIdx.tx (s.length - 1) e1 l1 ?_) | with_reducible first | apply l_ | apply m_ | apply n_ | apply o_ | refine p_ (fun _ => ?_) (fun _ => ?_)) <;> (conv => whnf)))
    all_goals exact Ret.eq rfl
  ·rw [if_pos (.inr (.inl c1))]
   rw [headD_get, d39] at c1
   ((conv => whnf); repeat' ((first | (with_reducible first | apply a_ | apply b_ | apply c_) | ((with_reducible first | apply d_ | apply e_ | apply f_ | apply g_); focus first | omega | (simp only [q_] <;> omega)) | ((with_reducible first | apply i_ | apply h_); focus first | omega | (simp only [q_] <;> omega)) | ((with_reducible apply h_); focus first | decide | kernel_rfl) | refine BCase.t (by decide) ?_ | refine BCase.f (by decide) ?_ | (refine SIdx.tx 0 rfl l0 ?_) | with_reducible first | apply l_ | apply m_ | apply n_ | apply o_ | refine p_ (fun _ => ?_) (fun _ => ?_)) <;> (conv => whnf)))
   all_goals exact Ret.eq rfl
end Go.Proofs.YtnkkhkpkipckiaaDoor.Pm
end
section
namespace Go.Proofs.YtnkkhkpkipckiaaDoor.Pm
open Go.RowKit K
set_option linter.unusedVariables false
set_option linter.unusedSimpArgs false
set_option maxRecDepth 100000
def hexI (c : UInt8) : Int := match hexv c with
 | some k => (k : Int)
 | none => -1
theorem hexI_ix (c : UInt8) : Lib.indexByte hexTab.data.toList c = hexI c := by
 have h : ∀ n : Nat, n < 256 → Lib.indexByte hexTab.data.toList (UInt8.ofNat n) = hexI (UInt8.ofNat n) := by decide +kernel
 have := h c.toNat c.toNat_lt
 rwa [u8_back] at this
theorem hexI_some {c : UInt8} {k : Nat} (h : hexv c = some k) : hexI c = k := by unfold hexI; rw [h]
theorem hexI_none {c : UInt8} (h : hexv c = none) : hexI c = -1 := by unfold hexI; rw [h]
theorem hexI_le (c : UInt8) : -1 ≤ hexI c ∧ hexI c ≤ 15 := by
 cases h : hexv c with
 | none => rw [hexI_none h]; omega
 | some k => rw [hexI_some h]; have := (hexd_v h).1; omega
theorem p_indexhex (c : UInt8) : Pure Tryd.prog 54 [.d (.c (.v (.string ⟨#[48, 49, 50, 51, 52, 53, 54, 55, 56, 57, 97, 98, 99, 100, 101, 102]⟩))), pInt .u8 (c.toNat : Int)] (pInt .i64 (hexI c)) := by
 refine pure_hand (vs := [.string hexTab, .int .u8 (c.toNat : Int)]) ⟨_, Tryd.func54, by rfl, by rfl⟩ fun w hG => ?_
 refine (Tryd.strings_IndexByte hexTab (c.toNat : Int) w).mono ?_
 rintro e w' ⟨rfl, rfl⟩
 refine ⟨_, rfl, Below.refl _ _, fun F _ => ?_⟩
 rw [show ((c.toNat : Int).toNat.toUInt8) = c from u8_back c, hexI_ix]
 exact rep_int _ _
theorem hexI_get {c : UInt8} (h : ¬ hexI c < 0) : hexv c = some (hexI c).toNat ∧ 0 ≤ hexI c ∧ hexI c < 16 := by
 cases hc : hexv c with
 | none => rw [hexI_none hc] at h; omega
 | some k => rw [hexI_some hc]; have := (hexd_v hc).1; exact ⟨rfl, by omega, by omega⟩
theorem hexI_neg {c : UInt8} (h : hexI c < 0) : hexv c = none := by
 cases hc : hexv c with
 | none => rfl
 | some k => rw [hexI_some hc] at h; omega
theorem Idx.mapV {α : Type} {f : α → List C} {l : List α} {n : Int} {K : List C → Prop} (k : Nat) (hk : n = (k : Int)) (x : α) (hx : l[k]? = some x) (h : K (f x)) : Idx (l.map f) n K :=
 ⟨f x, by omega, by rw [hk]; simp [hx], h⟩
theorem Wr.shl {n : Nat} {K : Int → Prop} (hn : n < 16) (h : K ((n : Int) * 2 ^ min (Int.toNat 4) IntKind.i64.bits)) : Wr .i64 ((n : Int) * 2 ^ min (Int.toNat 4) IntKind.i64.bits) K := by
 have e : (2 : Int) ^ min (Int.toNat 4) IntKind.i64.bits = 16 := rfl
 exact Wr.i64 (by rw [e]; omega) (by rw [e]; omega) h
theorem Wr.or {n : Nat} {x : Int} {K : Int → Prop} (hn : n < 16) (hx : 0 ≤ x ∧ x < 16) (h : K (((n * 16 + x.toNat : Nat)) : Int)) : Wr .i64 (((BitVec.ofInt IntKind.i64.bits ((n : Int) * 2 ^ min (Int.toNat 4) IntKind.i64.bits) ||| BitVec.ofInt IntKind.i64.bits x).toNat : Nat) : Int) K := by
 obtain ⟨m, rfl⟩ : ∃ m : Nat, x = m := ⟨x.toNat, by omega⟩
 have hm : m < 16 := by omega
 have key : ∀ a : Nat, a < 16 → ∀ b : Nat, b < 16 → (BitVec.ofInt 64 ((a : Int) * 16) ||| BitVec.ofInt 64 (b : Int)).toNat = a * 16 + b := by decide +kernel
 have e : (BitVec.ofInt IntKind.i64.bits ((n : Int) * 2 ^ min (Int.toNat 4) IntKind.i64.bits) ||| BitVec.ofInt IntKind.i64.bits (m : Int)).toNat = n * 16 + m := key n hn m hm
 rw [e]
 exact Wr.i64 (by omega) (by omega) h
def hexc (any : Bool) (c : UInt8) : UInt8 := if any = true ∧ 65 ≤ c.toNat ∧ c.toNat ≤ 70 then UInt8.ofNat (c.toNat + 32) else c
theorem hexw_c (any : Bool) (c : UInt8) : hexw any c = hexv (hexc any c) := by
 unfold hexw hexc
 split
 ·rename_i h
  have e : (UInt8.ofNat (c.toNat + 32)).toNat = c.toNat + 32 := u8_small (by omega)
  unfold hexv
  rw [e, if_neg (by omega), if_pos (by omega)]
  congr 1
 ·rfl
theorem p_Hexed (s : List UInt8) (hs : s.length ≤ 140737488351232) (any : Bool) : Pure Tryd.prog 36 [pStr (tx s), pBool any] (optP (hexL any s)) := by
 have hz := tx_size s
 refine pure_of Tryd.func36 (by rfl) rfl (by kernel_rfl) (by rfl) ?_
 unfold hexL
 by_cases h2 : s.length < 2
 ·rw [if_pos (.inl h2)]
  ((conv => whnf); repeat' ((first | (with_reducible first | apply a_ | apply b_ | apply c_) | ((with_reducible first | apply d_ | apply e_ | apply f_ | apply g_); focus first | omega | (simp only [q_] <;> omega)) | ((with_reducible first | apply i_ | apply h_); focus first | omega | (simp only [q_] <;> omega)) | ((with_reducible apply h_); focus first | decide | kernel_rfl) | refine BCase.t (by decide) ?_ | refine BCase.f (by decide) ?_ | with_reducible first | apply l_ | apply m_ | apply n_ | apply o_ | refine p_ (fun _ => ?_) (fun _ => ?_)) <;> (conv => whnf)))
  all_goals exact Ret.eq rfl
 ·have hne : s ≠ [] := fun e => by rw [e] at h2; simp at h2
  have l0 : 0 < s.length := by omega
  have l1 : s.length - 1 < s.length := by omega
  have e1 : ((tx s).size : Int) - 1 = ((s.length - 1 : Nat) : Int) := by omega
  have em : ((tx s).size : Int).tmod 2 = ((s.length % 2 : Nat) : Int) := by rw [hz]; rfl
  have d39 : ∀ c : UInt8, c = 39 ↔ ((c.toNat : Nat) : Int) = 39 := fun c => ⟨fun e => by rw [e]; rfl, fun e => by rw [← u8_back c, show c.toNat = 39 by omega]; rfl⟩
  by_cases c0 : s.length % 2 = 0
  ·by_cases c1 : s.headD 0 = 39
   ·have n1 := c1
    rw [headD_get, d39] at n1
    by_cases c2 : s.getLastD 0 = 39
    ·rw [if_neg (fun h => h.elim h2 fun h => h.elim (fun x => x c0) fun h => h.elim (fun x => x c1) (fun x => x c2))]
     rw [lastD_get hne, d39] at c2
     have hin : (innerL s).length + 2 = s.length := by unfold innerL; rw [List.length_take, List.length_drop]; omega
     ((conv => whnf); repeat' ((first | (with_reducible first | apply a_ | apply b_ | apply c_) | ((with_reducible first | apply d_ | apply e_ | apply f_ | apply g_); focus first | omega | (simp only [q_] <;> omega)) | ((with_reducible first | apply i_ | apply h_); focus first | omega | (simp only [q_] <;> omega)) | ((with_reducible apply h_); focus first | decide | kernel_rfl) | refine BCase.t (by decide) ?_ | refine BCase.f (by decide) ?_ | (first | refine SIdx.tx 0 rfl l0 ?_ | refine SIdx.tx (s.length - 1) e1 l1 ?_) | with_reducible first | apply l_ | apply m_ | apply n_ | apply o_ | refine p_ (fun _ => ?_) (fun _ => ?_)) <;> (conv => whnf)))
     refine LoopC.mk (List UInt8 × List UInt8) (fun x => [(1, pBool any), (6, .d (.app 60 5 1 (byteRows x.2))), (7, pStr (tx x.1))]) (fun _ => [(60, .tail 5 1)]) [60] (fun x => x.1.length + x.2.length ≤ s.length ∧ x.1.length % 2 = 0 ∧ unhex any (innerL s) = thenL x.2 (unhex any x.1)) (fun x => x.1.length) (innerL s, []) ⟨by show (innerL s).length + 0 ≤ _; omega, by show (innerL s).length % 2 = 0; omega, by show _ = thenL [] _; unfold thenL; cases unhex any (innerL s) <;> rfl⟩ ?start ?round
     case start => exact ⟨[], rfl, rfl, ⟨.inl rfl, ⟨rfl, rfl, Nat.zero_lt_succ _, rfl, rfl⟩, PLe.text (inner_tx s), trivial⟩, ⟨rfl, Nat.zero_lt_succ _⟩, trivial⟩
     case round =>
      rintro ⟨r, t⟩ ⟨hl, hev, hq⟩
      have hl : r.length + t.length ≤ s.length := hl
      have hev : r.length % 2 = 0 := hev
      have hq : unhex any (innerL s) = thenL t (unhex any r) := hq
      have hrz := tx_size r
      have hbl := byteRows_ln t
      cases r with
      | nil =>
       have hem : ¬ ¬ tx ([] : List UInt8) = ⟨#[]⟩ := not_not_intro rfl
       have hq : unhex any (innerL s) = some t := by rw [hq]; show some (t ++ []) = _; rw [List.append_nil]
       rw [hq]
       ((conv => whnf); repeat' ((first | (with_reducible first | apply a_ | apply b_ | apply c_) | ((with_reducible first | apply d_ | apply e_ | apply f_ | apply g_); focus first | omega | (simp only [q_] <;> omega)) | ((with_reducible first | apply i_ | apply h_); focus first | omega | (simp only [q_] <;> omega)) | ((with_reducible apply h_); focus first | decide | kernel_rfl) | refine BCase.t (by decide) ?_ | refine BCase.f (by decide) ?_ | (refine BCase.df hem ?_) | with_reducible first | apply l_ | apply m_ | apply n_ | apply o_ | refine p_ (fun _ => ?_) (fun _ => ?_)) <;> (conv => whnf)))
       refine Bytes.mk t rfl ?_
       ((conv => whnf); repeat' ((first | (with_reducible first | apply a_ | apply b_ | apply c_) | ((with_reducible first | apply d_ | apply e_ | apply f_ | apply g_); focus first | omega | (simp only [q_] <;> omega)) | ((with_reducible first | apply i_ | apply h_); focus first | omega | (simp only [q_] <;> omega)) | ((with_reducible apply h_); focus first | decide | kernel_rfl) | refine BCase.t (by decide) ?_ | refine BCase.f (by decide) ?_ | with_reducible first | apply l_ | apply m_ | apply n_ | apply o_ | refine p_ (fun _ => ?_) (fun _ => ?_)) <;> (conv => whnf)))
       exact Ret.eq rfl
      | cons a r =>
      cases r with
      | nil => simp at hev
      | cons b r =>
       have hne2 : ¬ tx (a :: b :: r) = ⟨#[]⟩ := fun e => by rw [tx_empty] at e; cases e
       rw [unhex] at hq
       rw [List.length_cons, List.length_cons] at hl hev
       have e2 : (tx (a :: b :: r)).extract (0 : Int).toNat (2 : Int).toNat = tx [a, b] := by rw [extract_tx]; rfl
       ((conv => whnf); repeat' ((first | (with_reducible first | apply a_ | apply b_ | apply c_) | ((with_reducible first | apply d_ | apply e_ | apply f_ | apply g_); focus first | omega | (simp only [q_] <;> omega)) | ((with_reducible first | apply i_ | apply h_); focus first | omega | (simp only [q_] <;> omega)) | ((with_reducible apply h_); focus first | decide | kernel_rfl) | refine BCase.t (by decide) ?_ | refine BCase.f (by decide) ?_ | (refine BCase.dt hne2 ?_) | with_reducible first | apply l_ | apply m_ | apply n_ | apply o_ | refine p_ (fun _ => ?_) (fun _ => ?_)) <;> (conv => whnf)))
       refine Need.mk ?nd ?_
       case nd => rw [e2]; show (2 : Nat) ≤ 9223372036854775807; omega
       ((conv => whnf); repeat' ((first | (with_reducible first | apply a_ | apply b_ | apply c_) | ((with_reducible first | apply d_ | apply e_ | apply f_ | apply g_); focus first | omega | (simp only [q_] <;> omega)) | ((with_reducible first | apply i_ | apply h_); focus first | omega | (simp only [q_] <;> omega)) | ((with_reducible apply h_); focus first | decide | kernel_rfl) | refine BCase.t (by decide) ?_ | refine BCase.f (by decide) ?_ | with_reducible first | apply l_ | apply m_ | apply n_ | apply o_ | refine p_ (fun _ => ?_) (fun _ => ?_)) <;> (conv => whnf)))
       refine LoopC.mk (Nat × Nat) (fun x => [(1, pBool any), (6, .d (.app 60 5 1 (byteRows t))), (7, pStr (tx (a :: b :: r))), (8, pInt .i64 (x.2 : Int)), (45, .d (.c (.sl 1 ([a, b].map fun b => [C.v (.int .u8 (b.toNat : Int))])))), (46, pInt .i64 2), (47, pInt .i64 (x.1 : Int))]) (fun _ => [(60, .tail 5 1)]) [60] (fun x => (x.1 = 0 ∧ x.2 = 0) ∨ (x.1 = 1 ∧ hexw any a = some x.2) ∨ (x.1 = 2 ∧ ∃ u v, hexw any a = some u ∧ hexw any b = some v ∧ x.2 = u * 16 + v ∧ u < 16 ∧ v < 16)) (fun x => 2 - x.1) (0, 0) (.inl ⟨rfl, rfl⟩) ?start2 ?round2
       case start2 => exact ⟨[(60, 60)], rfl, rfl, ⟨.inl rfl, ⟨rfl, rfl, rfl, rfl, rfl⟩, .inl rfl, .inl rfl, .inl (by rw [e2]; rfl), PLe.int (by rw [e2]; rfl), .inl rfl, trivial⟩, ⟨rfl, rfl, rfl⟩, trivial⟩
       case round2 =>
        rintro ⟨k, n⟩ hi
        have hi : (k = 0 ∧ n = 0) ∨ (k = 1 ∧ hexw any a = some n) ∨ (k = 2 ∧ ∃ u v, hexw any a = some u ∧ hexw any b = some v ∧ n = u * 16 + v ∧ u < 16 ∧ v < 16) := hi
        have hcc : ∀ c : UInt8, (any = true ∧ 65 ≤ c.toNat ∧ c.toNat ≤ 70) → hexc any c = by1 ((c.toNat : Int) + 32) := by
         intro c h
         unfold hexc
         rw [if_pos h, ← by1_toNat (UInt8.ofNat (c.toNat + 32)), u8_small (by omega)]
         congr 1
        have hcn : ∀ c : UInt8, ¬ (any = true ∧ 65 ≤ c.toNat ∧ c.toNat ≤ 70) → hexc any c = c := fun c h => if_neg h
        rcases hi with ⟨rfl, rfl⟩ | ⟨rfl, ha⟩ | ⟨rfl, u, v, hu, hv, rfl, u16, v16⟩
        ·have fin : ∀ z : UInt8, hexc any a = z → ¬ hexI z < 0 → hexw any a = some (0 * 16 + (hexI z).toNat) := by
          intro z h1 h2
          rw [hexw_c, h1, (hexI_get h2).1]; simp
         have bad : ∀ z : UInt8, hexc any a = z → hexI z < 0 → unhex any (innerL s) = none := by
          intro z h1 h2
          rw [hq, hexw_c, h1, hexI_neg h2]; rfl
         by_cases q : any = true ∧ 65 ≤ a.toNat ∧ a.toNat ≤ 70
         ·have hz1 := hcc a q
          obtain ⟨rfl, q1, q2⟩ := q
          ((conv => whnf); repeat' ((first | (with_reducible first | apply a_ | apply b_ | apply c_) | ((with_reducible first | apply d_ | apply e_ | apply f_ | apply g_); focus first | omega | (simp only [q_] <;> omega)) | ((with_reducible first | apply i_ | apply h_); focus first | omega | (simp only [q_] <;> omega)) | ((with_reducible apply h_); focus first | decide | kernel_rfl) | refine BCase.t (by decide) ?_ | refine BCase.f (by decide) ?_ | (refine Idx.mapV 0 rfl a rfl ?_) | refine CallP.pure _ rfl _ (p_indexhex _) ?_ | (refine Wr.or (n := 0) (by omega) (hexI_get (by assumption)).2 ?_) | with_reducible first | apply l_ | apply m_ | apply n_ | apply o_ | refine p_ (fun _ => ?_) (fun _ => ?_)) <;> (conv => whnf)))
          all_goals first
           | (rw [bad _ hz1 (by assumption)]; exact Ret.eq rfl)
           | exact ⟨(1, 0 * 16 + _), .inr (.inl ⟨rfl, fin _ hz1 (by assumption)⟩), by show 2 - 1 < 2 - 0; omega, [(60, 60)], rfl, rfl, ⟨.inl rfl, ⟨rfl, rfl, rfl, rfl, rfl⟩, .inl rfl, .inl rfl, .inl rfl, .inl rfl, .inl rfl, trivial⟩, ⟨rfl, rfl, rfl⟩, trivial⟩
         ·have hz1 := hcn a q
          cases any
          all_goals
           ((conv => whnf); repeat' ((first | (with_reducible first | apply a_ | apply b_ | apply c_) | ((with_reducible first | apply d_ | apply e_ | apply f_ | apply g_); focus first | omega | (simp only [q_] <;> omega)) | ((with_reducible first | apply i_ | apply h_); focus first | omega | (simp only [q_] <;> omega)) | ((with_reducible apply h_); focus first | decide | kernel_rfl) | refine BCase.t (by decide) ?_ | refine BCase.f (by decide) ?_ | (refine Idx.mapV 0 rfl a rfl ?_) | refine CallP.pure _ rfl _ (p_indexhex _) ?_ | (refine Wr.or (n := 0) (by omega) (hexI_get (by assumption)).2 ?_) | with_reducible first | apply l_ | apply m_ | apply n_ | apply o_ | refine p_ (fun _ => ?_) (fun _ => ?_)) <;> (conv => whnf)))
          all_goals first
           | (exfalso; exact q ⟨rfl, by omega, by omega⟩)
           | (rw [bad _ hz1 (by assumption)]; exact Ret.eq rfl)
           | exact ⟨(1, 0 * 16 + _), .inr (.inl ⟨rfl, fin _ hz1 (by assumption)⟩), by show 2 - 1 < 2 - 0; omega, [(60, 60)], rfl, rfl, ⟨.inl rfl, ⟨rfl, rfl, rfl, rfl, rfl⟩, .inl rfl, .inl rfl, .inl rfl, .inl rfl, .inl rfl, trivial⟩, ⟨rfl, rfl, rfl⟩, trivial⟩
        ·have n16 : n < 16 := by rw [hexw_c] at ha; exact (hexd_v ha).1
         have fin : ∀ z : UInt8, hexc any b = z → ¬ hexI z < 0 → hexw any b = some (hexI z).toNat ∧ (hexI z).toNat < 16 := by
          intro z h1 h2
          obtain ⟨g1, g2, g3⟩ := hexI_get h2
          rw [hexw_c, h1, g1]; exact ⟨rfl, by omega⟩
         have bad : ∀ z : UInt8, hexc any b = z → hexI z < 0 → unhex any (innerL s) = none := by
          intro z h1 h2
          rw [hq, ha, hexw_c, h1, hexI_neg h2]; rfl
         by_cases q : any = true ∧ 65 ≤ b.toNat ∧ b.toNat ≤ 70
         ·have hz1 := hcc b q
          obtain ⟨rfl, q1, q2⟩ := q
          ((conv => whnf); repeat' ((first | (with_reducible first | apply a_ | apply b_ | apply c_) | ((with_reducible first | apply d_ | apply e_ | apply f_ | apply g_); focus first | omega | (simp only [q_] <;> omega)) | ((with_reducible first | apply i_ | apply h_); focus first | omega | (simp only [q_] <;> omega)) | ((with_reducible apply h_); focus first | decide | kernel_rfl) | refine BCase.t (by decide) ?_ | refine BCase.f (by decide) ?_ | (refine Idx.mapV 1 rfl b rfl ?_) | refine CallP.pure _ rfl _ (p_indexhex _) ?_ | (refine Wr.shl (n := n) n16 ?_) | (refine Wr.or (n := n) n16 (hexI_get (by assumption)).2 ?_) | with_reducible first | apply l_ | apply m_ | apply n_ | apply o_ | refine p_ (fun _ => ?_) (fun _ => ?_)) <;> (conv => whnf)))
          all_goals first
           | (rw [bad _ hz1 (by assumption)]; exact Ret.eq rfl)
           | exact ⟨(2, n * 16 + _), .inr (.inr ⟨rfl, n, _, ha, (fin _ hz1 (by assumption)).1, rfl, n16, (fin _ hz1 (by assumption)).2⟩), by show 2 - 2 < 2 - 1; omega, [(60, 60)], rfl, rfl, ⟨.inl rfl, ⟨rfl, rfl, rfl, rfl, rfl⟩, .inl rfl, .inl rfl, .inl rfl, .inl rfl, .inl rfl, trivial⟩, ⟨rfl, rfl, rfl⟩, trivial⟩
         ·have hz1 := hcn b q
          cases any
          all_goals
           ((conv => whnf); repeat' ((first | (with_reducible first | apply a_ | apply b_ | apply c_) | ((with_reducible first | apply d_ | apply e_ | apply f_ | apply g_); focus first | omega | (simp only [q_] <;> omega)) | ((with_reducible first | apply i_ | apply h_); focus first | omega | (simp only [q_] <;> omega)) | ((with_reducible apply h_); focus first | decide | kernel_rfl) | refine BCase.t (by decide) ?_ | refine BCase.f (by decide) ?_ | (refine Idx.mapV 1 rfl b rfl ?_) | refine CallP.pure _ rfl _ (p_indexhex _) ?_ | (refine Wr.shl (n := n) n16 ?_) | (refine Wr.or (n := n) n16 (hexI_get (by assumption)).2 ?_) | with_reducible first | apply l_ | apply m_ | apply n_ | apply o_ | refine p_ (fun _ => ?_) (fun _ => ?_)) <;> (conv => whnf)))
          all_goals first
           | (exfalso; exact q ⟨rfl, by omega, by omega⟩)
           | (rw [bad _ hz1 (by assumption)]; exact Ret.eq rfl)
           | exact ⟨(2, n * 16 + _), .inr (.inr ⟨rfl, n, _, ha, (fin _ hz1 (by assumption)).1, rfl, n16, (fin _ hz1 (by assumption)).2⟩), by show 2 - 2 < 2 - 1; omega, [(60, 60)], rfl, rfl, ⟨.inl rfl, ⟨rfl, rfl, rfl, rfl, rfl⟩, .inl rfl, .inl rfl, .inl rfl, .inl rfl, .inl rfl, trivial⟩, ⟨rfl, rfl, rfl⟩, trivial⟩
        ·rw [hu, hv] at hq
         have hq : unhex any (innerL s) = thenL t ((unhex any r).map (UInt8.ofNat (u * 16 + v) :: ·)) := hq
         have e3 : (tx (a :: b :: r)).extract (2 : Int).toNat (((a :: b :: r).length : Nat) : Int).toNat = tx r := by
          rw [extract_tx]
          exact congrArg tx (List.take_of_length_le (by rw [List.length_drop]; show _ ≤ (a :: b :: r).length - 2; exact Nat.le_refl _))
         ((conv => whnf); repeat' ((first | (with_reducible first | apply a_ | apply b_ | apply c_) | ((with_reducible first | apply d_ | apply e_ | apply f_ | apply g_); focus first | omega | (simp only [q_] <;> omega)) | ((with_reducible first | apply i_ | apply h_); focus first | omega | (simp only [q_] <;> omega)) | ((with_reducible apply h_); focus first | decide | kernel_rfl) | refine BCase.t (by decide) ?_ | refine BCase.f (by decide) ?_ | (refine Need.by 1 rfl (by simp only [List.length_singleton]; omega) ?_) | with_reducible first | apply l_ | apply m_ | apply n_ | apply o_ | refine p_ (fun _ => ?_) (fun _ => ?_)) <;> (conv => whnf)))
         refine ⟨(r, t ++ [UInt8.ofNat (u * 16 + v)]), ⟨by show r.length + (t ++ [_]).length ≤ _; rw [List.length_append, List.length_singleton]; omega, by show r.length % 2 = 0; omega, ?_⟩, by show r.length < (a :: b :: r).length; rw [List.length_cons, List.length_cons]; omega, [(60, 75)], rfl, rfl, ⟨.inl rfl, ⟨rfl, rfl, rfl, rfl, ?_⟩, PLe.text e3, trivial⟩, ⟨rfl, rfl, rfl⟩, trivial⟩
         ·show _ = thenL (t ++ [UInt8.ofNat (u * 16 + v)]) (unhex any r)
          rw [hq]; unfold thenL
          cases unhex any r <;> simp
         ·show _ = byteRows (t ++ [UInt8.ofNat (u * 16 + v)])
          rw [byteRows_app]
          have : by1 (((u * 16 + v : Nat)) : Int) = UInt8.ofNat (u * 16 + v) := by
           rw [← by1_toNat (UInt8.ofNat (u * 16 + v)), u8_small (by omega)]
          show _ = byteRows t ++ byteRows [UInt8.ofNat (u * 16 + v)]
          rw [← this]; rfl
    ·rw [if_pos (.inr (.inr (.inr c2)))]
     rw [lastD_get hne, d39] at c2
     ((conv => whnf); repeat' ((first | (with_reducible first | apply a_ | apply b_ | apply c_) | ((with_reducible first | apply d_ | apply e_ | apply f_ | apply g_); focus first | omega | (simp only [q_] <;> omega)) | ((with_reducible first | apply i_ | apply h_); focus first | omega | (simp only [q_] <;> omega)) | ((with_reducible apply h_); focus first | decide | kernel_rfl) | refine BCase.t (by decide) ?_ | refine BCase.f (by decide) ?_ | (first | refine SIdx.tx 0 rfl l0 ?_ | refine SIdx.tx (s.length - 1) e1 l1 ?_) | with_reducible first | apply l_ | apply m_ | apply n_ | apply o_ | refine p_ (fun _ => ?_) (fun _ => ?_)) <;> (conv => whnf)))
     all_goals exact Ret.eq rfl
   ·rw [if_pos (.inr (.inr (.inl c1)))]
    rw [headD_get, d39] at c1
    ((conv => whnf); repeat' ((first | (with_reducible first | apply a_ | apply b_ | apply c_) | ((with_reducible first | apply d_ | apply e_ | apply f_ | apply g_); focus first | omega | (simp only [q_] <;> omega)) | ((with_reducible first | apply i_ | apply h_); focus first | omega | (simp only [q_] <;> omega)) | ((with_reducible apply h_); focus first | decide | kernel_rfl) | refine BCase.t (by decide) ?_ | refine BCase.f (by decide) ?_ | (refine SIdx.tx 0 rfl l0 ?_) | with_reducible first | apply l_ | apply m_ | apply n_ | apply o_ | refine p_ (fun _ => ?_) (fun _ => ?_)) <;> (conv => whnf)))
    all_goals exact Ret.eq rfl
  ·rw [if_pos (.inr (.inl c0))]
   ((conv => whnf); repeat' ((first | (with_reducible first | apply a_ | apply b_ | apply c_) | ((with_reducible first | apply d_ | apply e_ | apply f_ | apply g_); focus first | omega | (simp only [q_] <;> omega)) | ((with_reducible first | apply i_ | apply h_); focus first | omega | (simp only [q_] <;> omega)) | ((with_reducible apply h_); focus first | decide | kernel_rfl) | refine BCase.t (by decide) ?_ | refine BCase.f (by decide) ?_ | with_reducible first | apply l_ | apply m_ | apply n_ | apply o_ | refine p_ (fun _ => ?_) (fun _ => ?_)) <;> (conv => whnf)))
   all_goals exact Ret.eq rfl
end Go.Proofs.YtnkkhkpkipckiaaDoor.Pm
end
section
namespace Go.Proofs.YtnkkhkpkipckiaaDoor.Pm
open Go.RowKit K
set_option linter.unusedVariables false
set_option linter.unusedSimpArgs false
set_option maxRecDepth 100000
def digV (s : List UInt8) (most : Nat) : Nat := if digE s most = 0 then dval s else 0
theorem dval_take {s : List UInt8} {k : Nat} (h : k < s.length) : dval (s.take (k + 1)) = dval (s.take k) * 10 + (s[k].toNat - 48) := by rw [take_snoc h, dval_snoc]
theorem dval_mono : ∀ (l : List UInt8) (n m : Nat), n ≤ m → l.foldl dstep n ≤ l.foldl dstep m
 | [], n, m, h => h
 | c :: l, n, m, h => by
  rw [List.foldl_cons, List.foldl_cons]
  refine dval_mono l _ _ ?_
  unfold dstep; omega
theorem dstep_le : ∀ (l : List UInt8) (n : Nat), n ≤ l.foldl dstep n
 | [], n => Nat.le_refl _
 | c :: l, n => by
  rw [List.foldl_cons]
  have := dstep_le l (dstep n c)
  unfold dstep at this ⊢; omega
theorem dval_pre (s : List UInt8) (k : Nat) : dval (s.take k) ≤ dval s := by
 conv => rhs; rw [← List.take_append_drop k s]
 unfold dval
 rw [List.foldl_append]
 exact dstep_le _ _
theorem p_Digits (s : List UInt8) (hs : s.length ≤ 140737488351232) (most : Nat) (hm : 9 ≤ most ∧ most ≤ 9223372036854775808) : Pure Tryd.prog 56 [pStr (tx s), pInt .u64 (most : Int)] (.tup [pInt .u64 (digV s most : Int), pInt .i64 (digE s most)]) := by
 have hz := tx_size s
 refine pure_of Tryd.func56 (by rfl) rfl (by kernel_rfl) (by rfl) ?_
 unfold digV
 by_cases h0 : s = []
 ·have he : digE s most = 1 := by unfold digE; rw [if_pos (.inl h0)]
  have ht : tx s = ⟨#[]⟩ := by rw [h0]; rfl
  rw [he, if_neg (by decide)]
  ((conv => whnf); repeat' ((first | (with_reducible first | apply a_ | apply b_ | apply c_) | ((with_reducible first | apply d_ | apply e_ | apply f_ | apply g_); focus first | omega | (simp only [q_] <;> omega)) | ((with_reducible first | apply i_ | apply h_); focus first | omega | (simp only [q_] <;> omega)) | ((with_reducible apply h_); focus first | decide | kernel_rfl) | refine BCase.t (by decide) ?_ | refine BCase.f (by decide) ?_ | (refine BCase.dt ht ?_) | with_reducible first | apply l_ | apply m_ | apply n_ | apply o_ | refine p_ (fun _ => ?_) (fun _ => ?_)) <;> (conv => whnf)))
  all_goals exact Ret.eq rfl
 ·have ht : ¬ tx s = ⟨#[]⟩ := fun e => h0 (tx_empty.1 e)
  have l0 : 0 < s.length := List.length_pos_iff.2 h0
  have d48 : s.headD 0 = 48 ↔ (((s.getD 0 0).toNat : Nat) : Int) = 48 := by
   rw [headD_get]
   exact ⟨fun e => by rw [e]; rfl, fun e => by rw [← u8_back (s.getD 0 0), show (s.getD 0 0).toNat = 48 by omega]; rfl⟩
  by_cases h1 : s.headD 0 = 48 ∧ 1 < s.length
  ·have he : digE s most = 1 := by unfold digE; rw [if_pos (.inr (.inl h1))]
   have n48 := d48.1 h1.1
   have n1 := h1.2
   rw [he, if_neg (by decide)]
   ((conv => whnf); repeat' ((first | (with_reducible first | apply a_ | apply b_ | apply c_) | ((with_reducible first | apply d_ | apply e_ | apply f_ | apply g_); focus first | omega | (simp only [q_] <;> omega)) | ((with_reducible first | apply i_ | apply h_); focus first | omega | (simp only [q_] <;> omega)) | ((with_reducible apply h_); focus first | decide | kernel_rfl) | refine BCase.t (by decide) ?_ | refine BCase.f (by decide) ?_ | (refine BCase.df ht ?_) | (refine SIdx.tx 0 rfl l0 ?_) | with_reducible first | apply l_ | apply m_ | apply n_ | apply o_ | refine p_ (fun _ => ?_) (fun _ => ?_)) <;> (conv => whnf)))
   all_goals exact Ret.eq rfl
  ·have hb : ¬ ((((s.getD 0 0).toNat : Nat) : Int) = 48 ∧ 1 < s.length) := fun x => h1 ⟨d48.2 x.1, x.2⟩
   ((conv => whnf); repeat' ((first | (with_reducible first | apply a_ | apply b_ | apply c_) | ((with_reducible first | apply d_ | apply e_ | apply f_ | apply g_); focus first | omega | (simp only [q_] <;> omega)) | ((with_reducible first | apply i_ | apply h_); focus first | omega | (simp only [q_] <;> omega)) | ((with_reducible apply h_); focus first | decide | kernel_rfl) | refine BCase.t (by decide) ?_ | refine BCase.f (by decide) ?_ | (refine BCase.df ht ?_) | (refine SIdx.tx 0 rfl l0 ?_) | with_reducible first | apply l_ | apply m_ | apply n_ | apply o_ | refine p_ (fun _ => ?_) (fun _ => ?_)) <;> (conv => whnf)))
   all_goals
    refine LoopC.mk (Nat × Nat × Bool) (fun x => [(1, pInt .u64 (most : Int)), (6, pInt .u64 (x.2.1 : Int)), (7, pBool x.2.2), (24, .d (.c (.sl 1 (s.map fun b => [C.v (.int .u8 (b.toNat : Int))])))), (25, pInt .i64 s.length), (26, pInt .i64 x.1)]) (fun _ => []) [] (fun x => x.1 ≤ s.length ∧ (s.take x.1).all isDig = true ∧ (x.2.2 = false → x.2.1 = dval (s.take x.1) ∧ x.2.1 ≤ most) ∧ (x.2.2 = true → most < dval (s.take x.1))) (fun x => s.length - x.1) (0, 0, false) ⟨Nat.zero_le _, by rw [List.take_zero]; rfl, (fun _ => ⟨by rw [List.take_zero]; rfl, Nat.zero_le _⟩), fun h => by cases h⟩ ?start ?round
    case start => exact ⟨[], rfl, rfl, ⟨.inl rfl, PLe.int rfl, .inl rfl, .inl (by rw [list_tx]), PLe.int (by rw [List.length_map, list_tx]), .inl rfl, trivial⟩, trivial⟩
    case round =>
     rintro ⟨k, n, o⟩ ⟨hk, ha, hf, ht2⟩
     have hk : k ≤ s.length := hk
     have ha : (s.take k).all isDig = true := ha
     have hp : (((k, n, o) : Nat × Nat × Bool).2.1 : Int) = (n : Int) := rfl
     have hf : o = false → n = dval (s.take k) ∧ n ≤ most := hf
     have ht2 : o = true → most < dval (s.take k) := ht2
     by_cases q : k < s.length
     ·have hu := s[k].toNat_lt
      have hv := dval_take q
      have hall : (s.take (k + 1)).all isDig = ((s.take k).all isDig && isDig s[k]) := by rw [take_snoc q, List.all_append]; simp
      by_cases hd : isDig s[k] = true
      ·have hd2 := of_decide_eq_true hd
       have e8 : ((by1 (((s[k].toNat : Nat) : Int) - 48)).toNat : Int) = ((s[k].toNat : Nat) : Int) - 48 := by rw [by1_int]; omega
       have et : ((most : Int) - ((by1 (((s[k].toNat : Nat) : Int) - 48)).toNat : Int)).tdiv 10 = ((most : Int) - (((s[k].toNat : Nat) : Int) - 48)) / 10 := by rw [e8, tdiv_nn (by omega)]
       have ha2 : (s.take (k + 1)).all isDig = true := by rw [hall, ha, hd]; rfl
       cases o with
       | true =>
        have hlt := ht2 rfl
        ((conv => whnf); repeat' ((first | (with_reducible first | apply a_ | apply b_ | apply c_) | ((with_reducible first | apply d_ | apply e_ | apply f_ | apply g_); focus first | omega | (simp only [q_] <;> omega)) | ((with_reducible first | apply i_ | apply h_); focus first | omega | (simp only [q_] <;> omega)) | ((with_reducible apply h_); focus first | decide | kernel_rfl) | refine BCase.t (by decide) ?_ | refine BCase.f (by decide) ?_ | (refine Idx.mapI k rfl q ?_) | with_reducible first | apply l_ | apply m_ | apply n_ | apply o_ | refine p_ (fun _ => ?_) (fun _ => ?_)) <;> (conv => whnf)))
        all_goals exact ⟨(k + 1, n, true), ⟨by show k + 1 ≤ _; omega, ha2, (fun h => by cases h), fun _ => by show most < dval (s.take (k + 1)); omega⟩, by show s.length - (k + 1) < s.length - k; omega, [], rfl, rfl, ⟨.inl rfl, .inl rfl, .inl rfl, .inl rfl, .inl rfl, PLe.int (by omega), trivial⟩, trivial⟩
       | false =>
        obtain ⟨hn, hle⟩ := hf rfl
        ((conv => whnf); repeat' ((first | (with_reducible first | apply a_ | apply b_ | apply c_) | ((with_reducible first | apply d_ | apply e_ | apply f_ | apply g_); focus first | omega | (simp only [q_] <;> omega)) | ((with_reducible first | apply i_ | apply h_); focus first | omega | (simp only [q_] <;> omega)) | ((with_reducible apply h_); focus first | decide | kernel_rfl) | refine BCase.t (by decide) ?_ | refine BCase.f (by decide) ?_ | (refine Idx.mapI k rfl q ?_) | with_reducible first | apply l_ | apply m_ | apply n_ | apply o_ | refine p_ (fun _ => ?_) (fun _ => ?_)) <;> (conv => whnf)))
        all_goals first
         | exact ⟨(k + 1, n, true), ⟨by show k + 1 ≤ _; omega, ha2, (fun h => by cases h), fun _ => by show most < dval (s.take (k + 1)); omega⟩, by show s.length - (k + 1) < s.length - k; omega, [], rfl, rfl, ⟨.inl rfl, .inl rfl, PLe.bool (decide_eq_true (by omega)), .inl rfl, .inl rfl, PLe.int (by omega), trivial⟩, trivial⟩
         | exact ⟨(k + 1, dval (s.take (k + 1)), false), ⟨by show k + 1 ≤ _; omega, ha2, (fun _ => ⟨rfl, by show dval (s.take (k + 1)) ≤ most; omega⟩), fun h => by cases h⟩, by show s.length - (k + 1) < s.length - k; omega, [], rfl, rfl, ⟨.inl rfl, PLe.int (by show _ = ((dval (s.take (k + 1)) : Nat) : Int); omega), PLe.bool (decide_eq_false (by omega)), .inl rfl, .inl rfl, PLe.int (by omega), trivial⟩, trivial⟩
         | (exfalso; omega)
      ·have hd2 : ¬ (48 ≤ s[k].toNat ∧ s[k].toNat ≤ 57) := fun x => hd (decide_eq_true x)
       have hsall : s.all isDig = false := by
        cases hx : s.all isDig with
        | false => rfl
        | true => exact absurd (List.all_eq_true.1 hx _ (List.getElem_mem q)) hd
       have he : digE s most = 1 := by unfold digE; rw [if_pos (.inr (.inr hsall))]
       rw [he, if_neg (by decide)]
       ((conv => whnf); repeat' ((first | (with_reducible first | apply a_ | apply b_ | apply c_) | ((with_reducible first | apply d_ | apply e_ | apply f_ | apply g_); focus first | omega | (simp only [q_] <;> omega)) | ((with_reducible first | apply i_ | apply h_); focus first | omega | (simp only [q_] <;> omega)) | ((with_reducible apply h_); focus first | decide | kernel_rfl) | refine BCase.t (by decide) ?_ | refine BCase.f (by decide) ?_ | (refine Idx.mapI k rfl q ?_) | with_reducible first | apply l_ | apply m_ | apply n_ | apply o_ | refine p_ (fun _ => ?_) (fun _ => ?_)) <;> (conv => whnf)))
       all_goals first | exact Ret.eq rfl | (exfalso; omega)
     ·rw [List.take_of_length_le (by omega)] at ha hf ht2
      have hq : ¬ (s = [] ∨ (s.headD 0 = 48 ∧ 1 < s.length) ∨ s.all isDig = false) := fun h => h.elim h0 fun h => h.elim h1 fun h => by rw [ha] at h; cases h
      cases o with
      | true =>
       have hlt := ht2 rfl
       have he : digE s most = 8 := by unfold digE; rw [if_neg hq, if_pos hlt]
       rw [he, if_neg (by decide)]
       ((conv => whnf); repeat' ((first | (with_reducible first | apply a_ | apply b_ | apply c_) | ((with_reducible first | apply d_ | apply e_ | apply f_ | apply g_); focus first | omega | (simp only [q_] <;> omega)) | ((with_reducible first | apply i_ | apply h_); focus first | omega | (simp only [q_] <;> omega)) | ((with_reducible apply h_); focus first | decide | kernel_rfl) | refine BCase.t (by decide) ?_ | refine BCase.f (by decide) ?_ | with_reducible first | apply l_ | apply m_ | apply n_ | apply o_ | refine p_ (fun _ => ?_) (fun _ => ?_)) <;> (conv => whnf)))
       all_goals exact Ret.eq rfl
      | false =>
       obtain ⟨hn, hle⟩ := hf rfl
       have he : digE s most = 0 := by unfold digE; rw [if_neg hq, if_neg (by omega)]
       rw [he, if_pos rfl, ← hn]
       ((conv => whnf); repeat' ((first | (with_reducible first | apply a_ | apply b_ | apply c_) | ((with_reducible first | apply d_ | apply e_ | apply f_ | apply g_); focus first | omega | (simp only [q_] <;> omega)) | ((with_reducible first | apply i_ | apply h_); focus first | omega | (simp only [q_] <;> omega)) | ((with_reducible apply h_); focus first | decide | kernel_rfl) | refine BCase.t (by decide) ?_ | refine BCase.f (by decide) ?_ | with_reducible first | apply l_ | apply m_ | apply n_ | apply o_ | refine p_ (fun _ => ?_) (fun _ => ?_)) <;> (conv => whnf)))
       all_goals exact Ret.eq rfl
end Go.Proofs.YtnkkhkpkipckiaaDoor.Pm
end
section
namespace Go.Proofs.YtnkkhkpkipckiaaDoor.Pm
open Go.RowKit K
set_option linter.unusedVariables false
set_option linter.unusedSimpArgs false
set_option maxRecDepth 100000
def hasPre (l m : List UInt8) : Bool := decide (l.take m.length = m)
theorem p_haspre0 (l m : List UInt8) : Pure Tryd.prog 55 [pStr (tx l), pStr (tx m)] (pBool (hasPre l m)) := by
 have tl := tx_size l
 have tm := tx_size m
 refine pure_of Tryd.func55 (by rfl) rfl (by kernel_rfl) (by rfl) ?_
 by_cases h : m.length ≤ l.length
 ·have e : (tx l).extract (0 : Int).toNat ((tx m).size : Int).toNat = tx (l.take m.length) := by
   rw [extract_tx, Int.toNat_natCast, tm]; rfl
  ((conv => whnf); repeat' ((first | (with_reducible first | apply a_ | apply b_ | apply c_) | ((with_reducible first | apply d_ | apply e_ | apply f_ | apply g_); focus first | omega | (simp only [q_] <;> omega)) | ((with_reducible first | apply i_ | apply h_); focus first | omega | (simp only [q_] <;> omega)) | ((with_reducible apply h_); focus first | decide | kernel_rfl) | refine BCase.t (by decide) ?_ | refine BCase.f (by decide) ?_ | with_reducible first | apply l_ | apply m_ | apply n_ | apply o_ | refine p_ (fun _ => ?_) (fun _ => ?_)) <;> (conv => whnf)))
  refine Ret.bool ?_
  unfold hasPre
  rw [e]
  exact decide_eq_decide.2 tx_eq
 ·((conv => whnf); repeat' ((first | (with_reducible first | apply a_ | apply b_ | apply c_) | ((with_reducible first | apply d_ | apply e_ | apply f_ | apply g_); focus first | omega | (simp only [q_] <;> omega)) | ((with_reducible first | apply i_ | apply h_); focus first | omega | (simp only [q_] <;> omega)) | ((with_reducible apply h_); focus first | decide | kernel_rfl) | refine BCase.t (by decide) ?_ | refine BCase.f (by decide) ?_ | with_reducible first | apply l_ | apply m_ | apply n_ | apply o_ | refine p_ (fun _ => ?_) (fun _ => ?_)) <;> (conv => whnf)))
  refine Ret.bool ?_
  unfold hasPre
  rw [eq_comm, decide_eq_false_iff_not]
  intro q
  have := congrArg List.length q
  rw [List.length_take] at this
  omega
theorem p_haspre (l m : List UInt8) : Pure Tryd.prog 37 [pStr (tx l), pStr (tx m)] (pBool (hasPre l m)) := by
 refine pure_of Tryd.func37 (by rfl) rfl (by kernel_rfl) (by rfl) ?_
 ((conv => whnf); repeat' ((first | (with_reducible first | apply a_ | apply b_ | apply c_) | ((with_reducible first | apply d_ | apply e_ | apply f_ | apply g_); focus first | omega | (simp only [q_] <;> omega)) | ((with_reducible first | apply i_ | apply h_); focus first | omega | (simp only [q_] <;> omega)) | ((with_reducible apply h_); focus first | decide | kernel_rfl) | refine BCase.t (by decide) ?_ | refine BCase.f (by decide) ?_ | refine CallP.pure _ rfl _ (p_haspre0 l m) ?_ | with_reducible first | apply l_ | apply m_ | apply n_ | apply o_ | refine p_ (fun _ => ?_) (fun _ => ?_)) <;> (conv => whnf)))
 exact Ret.mk rfl
end Go.Proofs.YtnkkhkpkipckiaaDoor.Pm
end
section
namespace Go.Proofs.YtnkkhkpkipckiaaDoor.Pm
open Go.RowKit K
set_option linter.unusedVariables false
set_option linter.unusedSimpArgs false
set_option maxRecDepth 100000
def cutPre (l m : List UInt8) : List UInt8 := if hasPre l m then l.drop m.length else l
theorem hasPre_len {l m : List UInt8} (h : hasPre l m = true) : m.length ≤ l.length := by
 have := congrArg List.length (of_decide_eq_true h)
 rw [List.length_take] at this; omega
theorem p_cutpre0 (l m : List UInt8) : Pure Tryd.prog 53 [pStr (tx l), pStr (tx m)] (.tup [pStr (tx (cutPre l m)), pBool (hasPre l m)]) := by
 have tl := tx_size l
 have tm := tx_size m
 have pc := p_haspre0 l m
 refine pure_of Tryd.func53 (by rfl) rfl (by kernel_rfl) (by rfl) ?_
 unfold cutPre
 cases h : hasPre l m with
 | false =>
  rw [h] at pc
  ((conv => whnf); repeat' ((first | (with_reducible first | apply a_ | apply b_ | apply c_) | ((with_reducible first | apply d_ | apply e_ | apply f_ | apply g_); focus first | omega | (simp only [q_] <;> omega)) | ((with_reducible first | apply i_ | apply h_); focus first | omega | (simp only [q_] <;> omega)) | ((with_reducible apply h_); focus first | decide | kernel_rfl) | refine BCase.t (by decide) ?_ | refine BCase.f (by decide) ?_ | refine CallP.pure _ rfl _ (pc) ?_ | with_reducible first | apply l_ | apply m_ | apply n_ | apply o_ | refine p_ (fun _ => ?_) (fun _ => ?_)) <;> (conv => whnf)))
  all_goals exact Ret.eq rfl
 | true =>
  rw [h] at pc
  have := hasPre_len h
  have e : (tx l).extract ((m.length : Nat) : Int).toNat ((l.length : Nat) : Int).toNat = tx (l.drop m.length) := by
   rw [extract_tx]
   exact congrArg tx (List.take_of_length_le (by rw [List.length_drop]; omega))
  ((conv => whnf); repeat' ((first | (with_reducible first | apply a_ | apply b_ | apply c_) | ((with_reducible first | apply d_ | apply e_ | apply f_ | apply g_); focus first | omega | (simp only [q_] <;> omega)) | ((with_reducible first | apply i_ | apply h_); focus first | omega | (simp only [q_] <;> omega)) | ((with_reducible apply h_); focus first | decide | kernel_rfl) | refine BCase.t (by decide) ?_ | refine BCase.f (by decide) ?_ | refine CallP.pure _ rfl _ (pc) ?_ | with_reducible first | apply l_ | apply m_ | apply n_ | apply o_ | refine p_ (fun _ => ?_) (fun _ => ?_)) <;> (conv => whnf)))
  refine Ret.eq ?_
  rw [if_pos rfl, ← e]; rfl
theorem p_cutpre (l m : List UInt8) : Pure Tryd.prog 35 [pStr (tx l), pStr (tx m)] (.tup [pStr (tx (cutPre l m)), pBool (hasPre l m)]) := by
 refine pure_of Tryd.func35 (by rfl) rfl (by kernel_rfl) (by rfl) ?_
 ((conv => whnf); repeat' ((first | (with_reducible first | apply a_ | apply b_ | apply c_) | ((with_reducible first | apply d_ | apply e_ | apply f_ | apply g_); focus first | omega | (simp only [q_] <;> omega)) | ((with_reducible first | apply i_ | apply h_); focus first | omega | (simp only [q_] <;> omega)) | ((with_reducible apply h_); focus first | decide | kernel_rfl) | refine BCase.t (by decide) ?_ | refine BCase.f (by decide) ?_ | refine CallP.pure _ rfl _ (p_cutpre0 l m) ?_ | with_reducible first | apply l_ | apply m_ | apply n_ | apply o_ | refine p_ (fun _ => ?_) (fun _ => ?_)) <;> (conv => whnf)))
 exact Ret.mk rfl
theorem hasPre_1 (l : List UInt8) (c : UInt8) (hc : c ≠ 0) : hasPre l [c] = decide (l.headD 0 = c) := by
 unfold hasPre
 cases l with
 | nil => rw [decide_eq_false (by simp)]; exact (decide_eq_false (fun e : (0 : UInt8) = c => hc e.symm)).symm
 | cons a r => simp
def numN (s : List UInt8) : Int × Int :=
 if s.headD 0 = 45 then (-(digV (s.drop 1) most2 : Int), if digE (s.drop 1) most2 = 0 ∧ digV (s.drop 1) most2 = 0 then 1 else digE (s.drop 1) most2) else ((digV s most1 : Int), digE s most1)
theorem numA_N (s : List UInt8) : numA s = if (numN s).2 ≠ 0 then (zeroW, (numN s).2) else (⟨1, (numN s).1, []⟩, 0) := by
 unfold numA numN
 generalize s.drop 1 = r
 by_cases h : s.headD 0 = 45
 ·rw [if_pos h, if_pos h]
  by_cases he : digE (r) most2 = 0
  ·have hv : digV (r) most2 = dval (r) := by unfold digV; rw [if_pos he]
   rw [if_neg (by simp [he])]
   simp only [he, hv, true_and]
   by_cases h0 : dval (r) = 0
   ·simp [h0]
   ·simp [h0]
  ·rw [if_pos he]
   simp [he]
 ·rw [if_neg h, if_neg h]
  by_cases he : digE s most1 = 0
  ·have hv : digV s most1 = dval s := by unfold digV; rw [if_pos he]
   simp [he, hv]
  ·simp [he]
theorem digV_le (s : List UInt8) (most : Nat) : digV s most ≤ most := by
 unfold digV
 split
 ·rename_i h; exact (digE_ok h).2.2.2
 ·exact Nat.zero_le _
theorem p_number (s : List UInt8) (hs : s.length ≤ 140737488351232) : Pure Tryd.prog 39 [pStr (tx s)] (.tup [pInt .i64 (numN s).1, pInt .i64 (numN s).2]) := by
 have pc := p_cutpre s [45]
 have eh := hasPre_1 s 45 (by decide)
 refine pure_of Tryd.func39 (by rfl) rfl (by kernel_rfl) (by rfl) ?_
 unfold numN
 unfold cutPre at pc
 by_cases h : s.headD 0 = 45
 ·rw [if_pos h]
  rw [decide_eq_true h] at eh
  rw [eh, if_pos rfl] at pc
  have pd := p_Digits (s.drop 1) (by rw [List.length_drop]; omega) most2 ⟨by decide, by decide⟩
  have hv : digV (s.drop 1) most2 ≤ 9223372036854775808 := digV_le (s.drop 1) most2
  generalize digV (s.drop 1) most2 = v at *
  generalize digE (s.drop 1) most2 = q at *
  by_cases hm : v = 9223372036854775808
  ·subst hm
   rw [if_neg (fun x => absurd x.2 (by decide))]
   ((conv => whnf); repeat' ((first | (with_reducible first | apply a_ | apply b_ | apply c_) | ((with_reducible first | apply d_ | apply e_ | apply f_ | apply g_); focus first | omega | (simp only [q_] <;> omega)) | ((with_reducible first | apply i_ | apply h_); focus first | omega | (simp only [q_] <;> omega)) | ((with_reducible apply h_); focus first | decide | kernel_rfl) | refine BCase.t (by decide) ?_ | refine BCase.f (by decide) ?_ | refine CallP.pure _ rfl _ (pc) ?_ | refine CallP.pure _ rfl _ (pd) ?_ | (refine Wr.mk (-9223372036854775808) (by decide) ?_) | with_reducible first | apply l_ | apply m_ | apply n_ | apply o_ | refine p_ (fun _ => ?_) (fun _ => ?_)) <;> (conv => whnf)))
   all_goals exact Ret.eq rfl
  ·((conv => whnf); repeat' ((first | (with_reducible first | apply a_ | apply b_ | apply c_) | ((with_reducible first | apply d_ | apply e_ | apply f_ | apply g_); focus first | omega | (simp only [q_] <;> omega)) | ((with_reducible first | apply i_ | apply h_); focus first | omega | (simp only [q_] <;> omega)) | ((with_reducible apply h_); focus first | decide | kernel_rfl) | refine BCase.t (by decide) ?_ | refine BCase.f (by decide) ?_ | refine CallP.pure _ rfl _ (pc) ?_ | refine CallP.pure _ rfl _ (pd) ?_ | with_reducible first | apply l_ | apply m_ | apply n_ | apply o_ | refine p_ (fun _ => ?_) (fun _ => ?_)) <;> (conv => whnf)))
   ·rename_i h1 h2
    rw [if_pos ⟨h1, by omega⟩]
    have : (v : Int) = 0 := h2
    rw [this]; exact Ret.eq rfl
   ·rename_i h1 h2
    rw [if_neg (fun x => h2 (by omega)), Int.zero_sub]
    exact Ret.eq rfl
   ·rename_i h1
    rw [if_neg (fun x => h1 x.1), Int.zero_sub]
    exact Ret.eq rfl
 ·rw [if_neg h]
  rw [decide_eq_false h] at eh
  rw [eh, if_neg (by decide)] at pc
  have pd := p_Digits s hs most1 ⟨by decide, by decide⟩
  have hv : digV s most1 ≤ 9223372036854775807 := digV_le s most1
  ((conv => whnf); repeat' ((first | (with_reducible first | apply a_ | apply b_ | apply c_) | ((with_reducible first | apply d_ | apply e_ | apply f_ | apply g_); focus first | omega | (simp only [q_] <;> omega)) | ((with_reducible first | apply i_ | apply h_); focus first | omega | (simp only [q_] <;> omega)) | ((with_reducible apply h_); focus first | decide | kernel_rfl) | refine BCase.t (by decide) ?_ | refine BCase.f (by decide) ?_ | refine CallP.pure _ rfl _ (pc) ?_ | refine CallP.pure _ rfl _ (pd) ?_ | with_reducible first | apply l_ | apply m_ | apply n_ | apply o_ | refine p_ (fun _ => ?_) (fun _ => ?_)) <;> (conv => whnf)))
  all_goals exact Ret.eq rfl
theorem numN_le (s : List UInt8) : -9223372036854775808 ≤ (numN s).1 ∧ (numN s).1 ≤ 9223372036854775807 := by
 unfold numN
 split
 ·have hv : digV (s.drop 1) most2 ≤ 9223372036854775808 := digV_le (s.drop 1) most2
  constructor <;> show (_ : Int) ≤ _ <;> omega
 ·have hv : digV s most1 ≤ 9223372036854775807 := digV_le s most1
  constructor <;> show (_ : Int) ≤ _ <;> omega
theorem p_Of (s : List UInt8) (hs : s.length ≤ 140737488351232) : Pure Tryd.prog 18 [pStr (tx s)] (.tup [vV (ofV s).1, pInt .i64 (ofV s).2]) := by
 have pc := p_cutpre s [120]
 have ex := hasPre_1 s 120 (by decide)
 have ph := p_haspre s [39]
 have eq := hasPre_1 s 39 (by decide)
 have pn := p_number s hs
 have pq := p_Quoted s hs
 have en : tx s = ⟨#[78, 85, 76, 76]⟩ ↔ s = nullL := tx_eq (b := nullL)
 refine pure_of Tryd.func18 (by rfl) rfl (by kernel_rfl) (by rfl) ?_
 unfold ofV
 by_cases h0 : s = nullL
 ·rw [if_pos h0]
  ((conv => whnf); repeat' ((first | (with_reducible first | apply a_ | apply b_ | apply c_) | ((with_reducible first | apply d_ | apply e_ | apply f_ | apply g_); focus first | omega | (simp only [q_] <;> omega)) | ((with_reducible first | apply i_ | apply h_); focus first | omega | (simp only [q_] <;> omega)) | ((with_reducible apply h_); focus first | decide | kernel_rfl) | refine BCase.t (by decide) ?_ | refine BCase.f (by decide) ?_ | (refine BCase.dt (en.2 h0) ?_) | with_reducible first | apply l_ | apply m_ | apply n_ | apply o_ | refine p_ (fun _ => ?_) (fun _ => ?_)) <;> (conv => whnf)))
  exact Ret.eq rfl
 rw [if_neg h0]
 have h0 : ¬ tx s = ⟨#[78, 85, 76, 76]⟩ := fun x => h0 (en.1 x)
 unfold cutPre at pc
 by_cases h1 : s.headD 0 = 120
 ·rw [if_pos h1]
  rw [decide_eq_true h1] at ex
  rw [ex, if_pos rfl] at pc
  have pd := p_Hexed (s.drop 1) (by rw [List.length_drop]; omega) false
  unfold optP at pd
  cases ho : hexL false (s.drop 1) with
  | none =>
   rw [ho] at pd
   ((conv => whnf); repeat' ((first | (with_reducible first | apply a_ | apply b_ | apply c_) | ((with_reducible first | apply d_ | apply e_ | apply f_ | apply g_); focus first | omega | (simp only [q_] <;> omega)) | ((with_reducible first | apply i_ | apply h_); focus first | omega | (simp only [q_] <;> omega)) | ((with_reducible apply h_); focus first | decide | kernel_rfl) | refine BCase.t (by decide) ?_ | refine BCase.f (by decide) ?_ | (refine BCase.df h0 ?_) | refine CallP.pure _ rfl _ (pc) ?_ | refine CallP.pure _ rfl _ (pd) ?_ | with_reducible first | apply l_ | apply m_ | apply n_ | apply o_ | refine p_ (fun _ => ?_) (fun _ => ?_)) <;> (conv => whnf)))
   exact Ret.eq rfl
  | some t =>
   rw [ho] at pd
   have tz := tx_size t
   unfold txtA
   by_cases hl : 16 < t.length
   ·simp only [hl, if_true]
    ((conv => whnf); repeat' ((first | (with_reducible first | apply a_ | apply b_ | apply c_) | ((with_reducible first | apply d_ | apply e_ | apply f_ | apply g_); focus first | omega | (simp only [q_] <;> omega)) | ((with_reducible first | apply i_ | apply h_); focus first | omega | (simp only [q_] <;> omega)) | ((with_reducible apply h_); focus first | decide | kernel_rfl) | refine BCase.t (by decide) ?_ | refine BCase.f (by decide) ?_ | (refine BCase.df h0 ?_) | refine CallP.pure _ rfl _ (pc) ?_ | refine CallP.pure _ rfl _ (pd) ?_ | with_reducible first | apply l_ | apply m_ | apply n_ | apply o_ | refine p_ (fun _ => ?_) (fun _ => ?_)) <;> (conv => whnf)))
    exact Ret.eq rfl
   ·simp only [hl, if_false]
    ((conv => whnf); repeat' ((first | (with_reducible first | apply a_ | apply b_ | apply c_) | ((with_reducible first | apply d_ | apply e_ | apply f_ | apply g_); focus first | omega | (simp only [q_] <;> omega)) | ((with_reducible first | apply i_ | apply h_); focus first | omega | (simp only [q_] <;> omega)) | ((with_reducible apply h_); focus first | decide | kernel_rfl) | refine BCase.t (by decide) ?_ | refine BCase.f (by decide) ?_ | (refine BCase.df h0 ?_) | refine CallP.pure _ rfl _ (pc) ?_ | refine CallP.pure _ rfl _ (pd) ?_ | with_reducible first | apply l_ | apply m_ | apply n_ | apply o_ | refine p_ (fun _ => ?_) (fun _ => ?_)) <;> (conv => whnf)))
    exact Ret.eq rfl
 ·rw [if_neg h1]
  rw [decide_eq_false h1] at ex
  rw [ex, if_neg (by decide)] at pc
  by_cases h2 : s.headD 0 = 39
  ·rw [if_pos h2]
   rw [decide_eq_true h2] at eq
   rw [eq] at ph
   unfold optP at pq
   cases ho : quotL s with
   | none =>
    rw [ho] at pq
    ((conv => whnf); repeat' ((first | (with_reducible first | apply a_ | apply b_ | apply c_) | ((with_reducible first | apply d_ | apply e_ | apply f_ | apply g_); focus first | omega | (simp only [q_] <;> omega)) | ((with_reducible first | apply i_ | apply h_); focus first | omega | (simp only [q_] <;> omega)) | ((with_reducible apply h_); focus first | decide | kernel_rfl) | refine BCase.t (by decide) ?_ | refine BCase.f (by decide) ?_ | (refine BCase.df h0 ?_) | refine CallP.pure _ rfl _ (pc) ?_ | refine CallP.pure _ rfl _ (ph) ?_ | refine CallP.pure _ rfl _ (pq) ?_ | with_reducible first | apply l_ | apply m_ | apply n_ | apply o_ | refine p_ (fun _ => ?_) (fun _ => ?_)) <;> (conv => whnf)))
    exact Ret.eq rfl
   | some t =>
    rw [ho] at pq
    have tz := tx_size t
    unfold txtA
    by_cases hl : 16 < t.length
    ·simp only [hl, if_true]
     ((conv => whnf); repeat' ((first | (with_reducible first | apply a_ | apply b_ | apply c_) | ((with_reducible first | apply d_ | apply e_ | apply f_ | apply g_); focus first | omega | (simp only [q_] <;> omega)) | ((with_reducible first | apply i_ | apply h_); focus first | omega | (simp only [q_] <;> omega)) | ((with_reducible apply h_); focus first | decide | kernel_rfl) | refine BCase.t (by decide) ?_ | refine BCase.f (by decide) ?_ | (refine BCase.df h0 ?_) | refine CallP.pure _ rfl _ (pc) ?_ | refine CallP.pure _ rfl _ (ph) ?_ | refine CallP.pure _ rfl _ (pq) ?_ | with_reducible first | apply l_ | apply m_ | apply n_ | apply o_ | refine p_ (fun _ => ?_) (fun _ => ?_)) <;> (conv => whnf)))
     exact Ret.eq rfl
    ·simp only [hl, if_false]
     ((conv => whnf); repeat' ((first | (with_reducible first | apply a_ | apply b_ | apply c_) | ((with_reducible first | apply d_ | apply e_ | apply f_ | apply g_); focus first | omega | (simp only [q_] <;> omega)) | ((with_reducible first | apply i_ | apply h_); focus first | omega | (simp only [q_] <;> omega)) | ((with_reducible apply h_); focus first | decide | kernel_rfl) | refine BCase.t (by decide) ?_ | refine BCase.f (by decide) ?_ | (refine BCase.df h0 ?_) | refine CallP.pure _ rfl _ (pc) ?_ | refine CallP.pure _ rfl _ (ph) ?_ | refine CallP.pure _ rfl _ (pq) ?_ | with_reducible first | apply l_ | apply m_ | apply n_ | apply o_ | refine p_ (fun _ => ?_) (fun _ => ?_)) <;> (conv => whnf)))
     exact Ret.eq rfl
  ·rw [if_neg h2, numA_N]
   rw [decide_eq_false h2] at eq
   rw [eq] at ph
   by_cases he : (numN s).2 = 0
   ·rw [if_neg (by rw [he]; decide)]
    ((conv => whnf); repeat' ((first | (with_reducible first | apply a_ | apply b_ | apply c_) | ((with_reducible first | apply d_ | apply e_ | apply f_ | apply g_); focus first | omega | (simp only [q_] <;> omega)) | ((with_reducible first | apply i_ | apply h_); focus first | omega | (simp only [q_] <;> omega)) | ((with_reducible apply h_); focus first | decide | kernel_rfl) | refine BCase.t (by decide) ?_ | refine BCase.f (by decide) ?_ | (refine BCase.df h0 ?_) | refine CallP.pure _ rfl _ (pc) ?_ | refine CallP.pure _ rfl _ (ph) ?_ | refine CallP.pure _ rfl _ (pn) ?_ | with_reducible first | apply l_ | apply m_ | apply n_ | apply o_ | refine p_ (fun _ => ?_) (fun _ => ?_)) <;> (conv => whnf)))
    exact Ret.eq rfl
   ·rw [if_pos he]
    ((conv => whnf); repeat' ((first | (with_reducible first | apply a_ | apply b_ | apply c_) | ((with_reducible first | apply d_ | apply e_ | apply f_ | apply g_); focus first | omega | (simp only [q_] <;> omega)) | ((with_reducible first | apply i_ | apply h_); focus first | omega | (simp only [q_] <;> omega)) | ((with_reducible apply h_); focus first | decide | kernel_rfl) | refine BCase.t (by decide) ?_ | refine BCase.f (by decide) ?_ | (refine BCase.df h0 ?_) | refine CallP.pure _ rfl _ (pc) ?_ | refine CallP.pure _ rfl _ (ph) ?_ | refine CallP.pure _ rfl _ (pn) ?_ | with_reducible first | apply l_ | apply m_ | apply n_ | apply o_ | refine p_ (fun _ => ?_) (fun _ => ?_)) <;> (conv => whnf)))
    exact Ret.eq rfl
end Go.Proofs.YtnkkhkpkipckiaaDoor.Pm
end
section
namespace Go.Proofs.YtnkkhkpkipckiaaDoor.Pm
open Go.RowKit K
set_option linter.unusedVariables false
set_option linter.unusedSimpArgs false
set_option maxRecDepth 100000
theorem fold_form : ∀ (l : List UInt8) (n : Nat), l.foldl dstep n = n * 10 ^ l.length + dval l
 | [], n => by simp [dval]
 | c :: l, n => by
  have h1 : (c :: l).foldl dstep n = l.foldl dstep (dstep n c) := rfl
  have h2 : dval (c :: l) = l.foldl dstep (dstep 0 c) := rfl
  rw [h1, h2, fold_form l (dstep n c), fold_form l (dstep 0 c), List.length_cons, Nat.pow_succ]
  unfold dstep
  rw [Nat.add_mul, Nat.zero_mul, Nat.zero_add, Nat.mul_assoc, Nat.mul_comm 10 (10 ^ l.length)]
  omega
theorem dval_cons (c : UInt8) (l : List UInt8) : dval (c :: l) = (c.toNat - 48) * 10 ^ l.length + dval l := by
 have h2 : dval (c :: l) = l.foldl dstep (dstep 0 c) := rfl
 rw [h2, fold_form]
 unfold dstep
 rw [Nat.zero_mul, Nat.zero_add]
theorem dval_lt : ∀ {l : List UInt8}, l.all isDig = true → dval l < 10 ^ l.length
 | [], _ => by simp [dval]
 | c :: l, h => by
  rw [List.all_cons, Bool.and_eq_true] at h
  have hc := of_decide_eq_true h.1
  have ih := dval_lt h.2
  rw [dval_cons, List.length_cons, Nat.pow_succ]
  have : (c.toNat - 48) * 10 ^ l.length ≤ 9 * 10 ^ l.length := Nat.mul_le_mul_right _ (by omega)
  omega
theorem dval_ge {l : List UInt8} (h : l.all isDig = true) (h0 : l ≠ []) (h1 : l.headD 0 ≠ 48) : 10 ^ (l.length - 1) ≤ dval l := by
 cases l with
 | nil => exact absurd rfl h0
 | cons c l =>
  rw [List.all_cons, Bool.and_eq_true] at h
  have hc := of_decide_eq_true h.1
  have hne : c.toNat ≠ 48 := fun e => h1 (by show c = 48; rw [← u8_back c, e]; rfl)
  rw [dval_cons, List.length_cons, Nat.add_sub_cancel]
  have : 1 * 10 ^ l.length ≤ (c.toNat - 48) * 10 ^ l.length := Nat.mul_le_mul_right _ (by omega)
  omega
theorem dcmp : ∀ {a b : List UInt8}, a.length = b.length → a.all isDig = true → b.all isDig = true → (Lib.compareBytes a b < 0 ↔ dval a < dval b)
 | [], [], _, _, _ => by simp [Lib.compareBytes, dval]
 | x :: a, y :: b, hl, ha, hb => by
  have hl : a.length = b.length := by simpa using hl
  rw [List.all_cons, Bool.and_eq_true] at ha hb
  have hx := of_decide_eq_true ha.1
  have hy := of_decide_eq_true hb.1
  have ih := dcmp hl ha.2 hb.2
  have la := dval_lt ha.2
  have lb := dval_lt hb.2
  rw [dval_cons, dval_cons, hl]
  rw [hl] at la
  unfold Lib.compareBytes
  by_cases h1 : x < y
  ·rw [if_pos h1]
   have h1 : x.toNat < y.toNat := h1
   have : (x.toNat - 48 + 1) * 10 ^ b.length ≤ (y.toNat - 48) * 10 ^ b.length := Nat.mul_le_mul_right _ (by omega)
   rw [Nat.add_mul] at this
   exact ⟨fun _ => by omega, fun _ => by decide⟩
  ·rw [if_neg h1]
   by_cases h2 : y < x
   ·rw [if_pos h2]
    have h2 : y.toNat < x.toNat := h2
    have : (y.toNat - 48 + 1) * 10 ^ b.length ≤ (x.toNat - 48) * 10 ^ b.length := Nat.mul_le_mul_right _ (by omega)
    rw [Nat.add_mul] at this
    exact ⟨fun h => by omega, fun h => by omega⟩
   ·rw [if_neg h2, ih]
    have e : x.toNat = y.toNat := by
     have h1 : ¬ x.toNat < y.toNat := h1
     have h2 : ¬ y.toNat < x.toNat := h2
     omega
    rw [e]; omega
def allB (s : List UInt8) : Bool := s.all isDig && (decide (s.length = 1) || (decide (1 < s.length) && decide (s.headD 0 ≠ 48)))
def lessB (s t : List UInt8) : Bool := decide (s.length < t.length) || (decide (s.length = t.length) && !decide (Lib.compareBytes t s < 0))
theorem allB_iff (s : List UInt8) : allB s = true ↔ s.all isDig = true ∧ (s.length = 1 ∨ (1 < s.length ∧ s.headD 0 ≠ 48)) := by
 unfold allB
 rw [Bool.and_eq_true, Bool.or_eq_true, Bool.and_eq_true, decide_eq_true_eq, decide_eq_true_eq, decide_eq_true_eq]
theorem short_lt {a b : List UInt8} (ha : allB a = true) (hb : allB b = true) (h : a.length < b.length) : dval a < dval b := by
 rw [allB_iff] at ha hb
 have h1 := dval_lt ha.1
 have hp : 0 < a.length := by rcases ha.2 with x | x <;> omega
 rcases hb.2 with x | x
 ·omega
 ·have h2 := dval_ge hb.1 (fun e => by rw [e] at h; simp at h) x.2
  have : 10 ^ a.length ≤ 10 ^ (b.length - 1) := Nat.pow_le_pow_right (by decide) (by omega)
  omega
theorem less_iff {s t : List UInt8} (hs : allB s = true) (ht : allB t = true) : lessB s t = decide (dval s ≤ dval t) := by
 unfold lessB
 by_cases h1 : s.length < t.length
 ·have := short_lt hs ht h1
  rw [decide_eq_true h1, decide_eq_true (show dval s ≤ dval t by omega), Bool.true_or]
 ·by_cases h2 : s.length = t.length
  ·have := dcmp h2.symm ((allB_iff _).1 ht).1 ((allB_iff _).1 hs).1
   rw [decide_eq_false h1, decide_eq_true h2, Bool.false_or, Bool.true_and]
   by_cases h3 : dval t < dval s
   ·rw [decide_eq_true (this.2 h3), decide_eq_false (show ¬ dval s ≤ dval t by omega)]; rfl
   ·rw [decide_eq_false (fun x => h3 (this.1 x)), decide_eq_true (show dval s ≤ dval t by omega)]; rfl
  ·have := short_lt ht hs (by omega)
   rw [decide_eq_false h1, decide_eq_false h2, decide_eq_false (show ¬ dval s ≤ dval t by omega)]; rfl
theorem digE_all (s : List UInt8) (most : Nat) : digE s most = if allB s = false then 1 else if most < dval s then 8 else 0 := by
 unfold digE
 by_cases h : allB s = true
 ·have q := (allB_iff s).1 h
  have hA : ¬ (s = [] ∨ (s.headD 0 = 48 ∧ 1 < s.length) ∨ s.all isDig = false) := by
   rintro (x | x | x)
   ·rw [x] at q; rcases q.2 with y | y
    ·simp at y
    ·simp at y
   ·rcases q.2 with y | y
    ·omega
    ·exact y.2 x.1
   ·rw [q.1] at x; cases x
  rw [if_neg hA, if_neg (show ¬ allB s = false by rw [h]; decide)]
 ·have hf : allB s = false := Bool.eq_false_iff.2 h
  rw [if_pos, if_pos hf]
  apply Decidable.byContradiction
  intro x
  apply h
  rw [allB_iff]
  have x1 : s ≠ [] := fun e => x (.inl e)
  have x2 : ¬ (s.headD 0 = 48 ∧ 1 < s.length) := fun e => x (.inr (.inl e))
  have x3 : s.all isDig = true := by simpa using fun e => x (.inr (.inr e))
  refine ⟨x3, ?_⟩
  have := List.length_pos_iff.2 x1
  by_cases y : s.length = 1
  ·exact .inl y
  ·exact .inr ⟨by omega, fun e => x2 ⟨e, by omega⟩⟩
def intO (s : List UInt8) (below : Bool) : Int × Int :=
 if allB s = false ∨ (below = true ∧ s = [48]) then (0, 1) else if (if below then most2 else most1) < dval s then (0, 8) else (if below then -(dval s : Int) else (dval s : Int), 0)
def hexR (s : List UInt8) : Option (List UInt8) := if s.length < 3 ∨ s.length % 2 = 0 ∨ s.headD 0 ≠ 120 ∨ s.getD 1 0 ≠ 39 ∨ s.getLastD 0 ≠ 39 then none else unhex false (innerL (s.drop 1))
def resA (r : Int × Int) : ValueD × Int := if r.2 ≠ 0 then (zeroW, r.2) else (⟨1, r.1, []⟩, 0)
def intA (s : List UInt8) : ValueD × Int := if s.headD 0 = 45 then resA (intO (s.drop 1) true) else resA (intO s false)
def litV (s : List UInt8) : ValueD × Int :=
 if s = nullL then (zeroW, 0)
 else match quotL s with
  | some t => txtA 2 (some t)
  | none => match hexR s with
   | some t => txtA 3 (some t)
   | none => intA s
theorem zero_one {s : List UInt8} (h : allB s = true) : dval s = 0 ↔ s = [48] := by
 constructor
 ·intro h0
  have q := (allB_iff s).1 h
  have hne : s ≠ [] := fun e => by rw [e] at q; rcases q.2 with y | y <;> simp at y
  by_cases h1 : s.headD 0 = 48
  ·rcases q.2 with y | y
   ·match s, y with
    | [c], _ => rw [show c = 48 from h1]
   ·exact absurd h1 y.2
  ·have := dval_pos q.1 hne h1
   omega
 ·rintro rfl; rfl
theorem intO_bad {s : List UInt8} (below : Bool) (h : allB s = false) : intO s below = (0, 1) := if_pos (.inl h)
theorem intO_ok {s : List UInt8} (below : Bool) (h : allB s = true) (h0 : below = true → s ≠ [48]) : intO s below = if (if below then most2 else most1) < dval s then (0, 8) else (if below then -(dval s : Int) else (dval s : Int), 0) := by
 refine if_neg ?_
 rintro (x | x)
 ·rw [h] at x; cases x
 ·exact h0 x.1 x.2
theorem intA_num (s : List UInt8) : intA s = numA s := by
 unfold intA numA
 by_cases h : s.headD 0 = 45
 ·rw [if_pos h, if_pos h]
  generalize s.drop 1 = r
  rw [digE_all]
  by_cases ha : allB r = true
  ·have hn : ¬ allB r = false := by rw [ha]; decide
   have hz := zero_one ha
   rw [if_neg hn]
   by_cases h0 : r = [48]
   ·subst h0
    rw [show intO [48] true = (0, 1) from if_pos (.inr ⟨rfl, rfl⟩), if_neg (show ¬ most2 < dval [48] by decide)]; rfl
   ·have : ¬ dval r = 0 := fun e => h0 (hz.1 e)
    rw [intO_ok true ha (fun _ => h0), if_neg this]
    by_cases hb : most2 < dval r
    ·rw [if_pos (show (if (true : Bool) = true then most2 else most1) < dval r from hb), if_pos hb]; rfl
    ·rw [if_neg (show ¬ (if (true : Bool) = true then most2 else most1) < dval r from hb), if_neg hb]; rfl
  ·have hf : allB r = false := Bool.eq_false_iff.2 ha
   rw [intO_bad true hf, if_pos hf]; rfl
 ·rw [if_neg h, if_neg h, digE_all]
  by_cases ha : allB s = true
  ·have hn : ¬ allB s = false := by rw [ha]; decide
   rw [intO_ok false ha (fun x => by cases x), if_neg hn]
   by_cases hb : most1 < dval s
   ·rw [if_pos (show (if (false : Bool) = true then most2 else most1) < dval s from hb), if_pos hb]; rfl
   ·rw [if_neg (show ¬ (if (false : Bool) = true then most2 else most1) < dval s from hb), if_neg hb]; rfl
  ·have hf : allB s = false := Bool.eq_false_iff.2 ha
   rw [intO_bad false hf, if_pos hf]; rfl
theorem hexR_x {s : List UInt8} (h : s.headD 0 = 120) : hexR s = hexL false (s.drop 1) := by
 cases s with
 | nil => exact absurd h (by decide)
 | cons a r =>
  have h : a = 120 := h
  subst h
  unfold hexR hexL
  rw [show (120 :: r).drop 1 = r from rfl, List.length_cons]
  have e1 : (120 :: r).getD 1 0 = r.headD 0 := by cases r <;> rfl
  rw [e1, show (120 :: r).headD 0 = 120 from rfl]
  by_cases q : r.length < 2
  ·rw [if_pos (.inl (by omega)), if_pos (.inl q)]
  ·have e2 : (120 :: r).getLastD 0 = r.getLastD 0 := by
    cases r with
    | nil => simp at q
    | cons b r => rw [List.getLastD_cons, List.getLastD_cons, List.getLastD_cons]
   rw [e2]
   by_cases q2 : r.length % 2 ≠ 0
   ·rw [if_pos (.inr (.inl (by omega))), if_pos (.inr (.inl q2))]
   ·by_cases q3 : r.headD 0 ≠ 39
    ·rw [if_pos (.inr (.inr (.inr (.inl q3)))), if_pos (.inr (.inr (.inl q3)))]
    ·by_cases q4 : r.getLastD 0 ≠ 39
     ·rw [if_pos (.inr (.inr (.inr (.inr q4)))), if_pos (.inr (.inr (.inr q4)))]
     ·rw [if_neg, if_neg]
      ·rintro (x | x | x | x)
       ·exact q x
       ·exact q2 x
       ·exact q3 x
       ·exact q4 x
      ·rintro (x | x | x | x | x)
       ·omega
       ·omega
       ·exact x rfl
       ·exact q3 x
       ·exact q4 x
theorem hexR_no {s : List UInt8} (h : s.headD 0 ≠ 120) : hexR s = none := if_pos (.inr (.inr (.inl h)))
theorem quot_no {s : List UInt8} (h : s.headD 0 ≠ 39) : quotL s = none := if_pos (.inr (.inl h))
theorem allB_head {s : List UInt8} (h : allB s = true) : 48 ≤ (s.headD 0).toNat ∧ (s.headD 0).toNat ≤ 57 := by
 have q := (allB_iff s).1 h
 cases s with
 | nil => rcases q.2 with y | y <;> simp at y
 | cons c r =>
  have := q.1
  rw [List.all_cons, Bool.and_eq_true] at this
  exact of_decide_eq_true this.1
theorem intA_bad {s : List UInt8} (h45 : s.headD 0 ≠ 45) (h : allB s = false) : intA s = (zeroW, 1) := by
 unfold intA
 rw [if_neg h45, intO_bad false h]; rfl
theorem lit_of (s : List UInt8) : litV s = ofV s := by
 unfold litV ofV
 by_cases h0 : s = nullL
 ·rw [if_pos h0, if_pos h0]
 rw [if_neg h0, if_neg h0]
 by_cases h1 : s.headD 0 = 120
 ·rw [if_pos h1, quot_no (by rw [h1]; decide), hexR_x h1]
  cases hexL false (s.drop 1) with
  | some t => rfl
  | none =>
   refine intA_bad (by rw [h1]; decide) (Bool.eq_false_iff.2 fun x => ?_)
   have := allB_head x
   rw [h1] at this
   exact absurd this.2 (by decide)
 ·rw [if_neg h1, hexR_no h1]
  by_cases h2 : s.headD 0 = 39
  ·rw [if_pos h2]
   cases quotL s with
   | some t => rfl
   | none =>
    refine intA_bad (by rw [h2]; decide) (Bool.eq_false_iff.2 fun x => ?_)
    have := allB_head x
    rw [h2] at this
    exact absurd this.1 (by decide)
  ·rw [if_neg h2, quot_no h2]
   exact intA_num s
end Go.Proofs.YtnkkhkpkipckiaaDoor.Pm
end
section
namespace Go.Proofs.YtnkkhkpkipckiaaDoor.Pm
open Go.RowKit K
set_option linter.unusedVariables false
set_option linter.unusedSimpArgs false
set_option maxRecDepth 100000
def nmap (seen : List (List UInt8)) : List (ByteArray × Value) := seen.map fun s => (tx s, .agg #[])
theorem mpGet_nmap : ∀ (seen : List (List UInt8)) (s : List UInt8), mpGet (nmap seen) (tx s) = if s ∈ seen then some (.agg #[]) else none
 | [], s => rfl
 | a :: l, s => by
  show (bif decide (tx s = tx a) then _ else _) = _
  by_cases h : s = a
  ·subst h; simp
  ·have : ¬ tx s = tx a := fun e => h (tx_inj e)
   rw [decide_eq_false this, cond_false]
   show mpGet (nmap l) (tx s) = _
   rw [mpGet_nmap l s]
   simp [h]
theorem mpPut_nmap : ∀ (seen : List (List UInt8)) (s : List UInt8), mpPut (nmap seen) (tx s) (.agg #[]) = if s ∈ seen then nmap seen else nmap (seen ++ [s])
 | [], s => rfl
 | a :: l, s => by
  show (bif decide (tx s = tx a) then _ else _) = _
  by_cases h : s = a
  ·subst h; simp [nmap]
  ·have : ¬ tx s = tx a := fun e => h (tx_inj e)
   rw [decide_eq_false this, cond_false]
   show _ :: mpPut (nmap l) (tx s) _ = _
   rw [mpPut_nmap l s]
   by_cases h2 : s ∈ l
   ·simp [h2, nmap]
   ·simp [h, h2, nmap]
theorem nmap_plain (seen : List (List UInt8)) : ∀ p ∈ nmap seen, plainV p.2 = true := by
 intro p hp
 obtain ⟨s, _, rfl⟩ := List.mem_map.1 hp
 rfl
end Go.Proofs.YtnkkhkpkipckiaaDoor.Pm
end
section
namespace Go.Proofs.YtnkkhkpkipckiaaDoor.Pm
open Go.RowKit K
set_option linter.unusedVariables false
set_option linter.unusedSimpArgs false
set_option maxRecDepth 100000
structure ColumnD where
 Name : List UInt8
 Kind : Int
 NotNull : Bool
 Unique : Bool
def ColumnD.c (x : ColumnD) : List C := [.v (.string (tx x.Name)), .v (.int .i64 x.Kind), .v (.bool x.NotNull), .v (.bool x.Unique)]
def ColumnD.ok (x : ColumnD) : Prop := okText x.Name ∧ okInt x.Kind ∧ okAny x.NotNull ∧ okAny x.Unique
def ColumnD.eqB (x y : ColumnD) : Bool := (decide (tx x.Name = tx y.Name) && (decide (x.Kind = y.Kind) && ((x.NotNull == y.NotNull) && ((x.Unique == y.Unique) && true))))
theorem ColumnD.eqB_iff (x y : ColumnD) : ColumnD.eqB x y = true ↔ x = y := by
 cases x; cases y
 simp [ColumnD.eqB, tx_eq]
structure SchemaD where
 Id : Int
 Name : List UInt8
 Cols : List ColumnD
def SchemaD.c (x : SchemaD) : List C := [.v (.int .i64 x.Id), .v (.string (tx x.Name)), .sl 4 (x.Cols.map ColumnD.c)]
abbrev cV (x : ColumnD) : PV := .agg (x.c.map D.c)
abbrev sV (x : SchemaD) : PV := .agg (x.c.map D.c)
def SchemaD.eqB (x y : SchemaD) : Bool := decide (x.Id = y.Id) && (decide (tx x.Name = tx y.Name) && listEqB ColumnD.eqB x.Cols y.Cols)
theorem SchemaD.eqB_iff (x y : SchemaD) : SchemaD.eqB x y = true ↔ x = y := by
 cases x; cases y
 simp [SchemaD.eqB, listEqB_iff ColumnD.eqB_iff, tx_eq]
def colsGo (seen : List (List UInt8)) : List ColumnD → Int
 | [] => 0
 | c :: r => if nameB c.Name = false then 1 else if c.Kind < 0 ∨ 3 < c.Kind then 7 else if c.Name ∈ seen then 6 else colsGo (seen ++ [c.Name]) r
def colsChk (l : List ColumnD) : Int := if l.length = 0 then 1 else if 6 < l.length then 2 else colsGo [] l
def schGo (last : Int) (seen : List (List UInt8)) : List SchemaD → Int
 | [] => 0
 | s :: r => if s.Id < 1 ∨ 999 < s.Id then 3 else if s.Id ≤ last then 4 else if nameB s.Name = false then 1 else if colsChk s.Cols ≠ 0 then colsChk s.Cols else if s.Name ∈ seen then 6 else schGo s.Id (seen ++ [s.Name]) r
def schChk (l : List SchemaD) : Int := if 6 < l.length then 2 else schGo 0 [] l
abbrev nsz (n : Nat) : Prop := n ≤ 140737488355328
def colsSh (l : List ColumnD) : Prop := nsz l.length ∧ ∀ c ∈ l, okText c.Name
def schSh (l : List SchemaD) : Prop := nsz l.length ∧ ∀ s ∈ l, okText s.Name ∧ colsSh s.Cols
theorem mem_take {α : Type} {f : α → List UInt8} {l : List α} {k : Nat} {s : List UInt8} : s ∈ (l.take k).map f ↔ ∃ j, ∃ h : j < l.length, j < k ∧ f l[j] = s := by
 rw [List.mem_map]
 constructor
 ·rintro ⟨x, hx, rfl⟩
  obtain ⟨j, hj, rfl⟩ := List.getElem_of_mem hx
  rw [List.length_take] at hj
  exact ⟨j, by omega, by omega, by rw [List.getElem_take]⟩
 ·rintro ⟨j, h, h2, rfl⟩
  exact ⟨l[j], List.mem_take_iff_getElem.2 ⟨j, by omega, rfl⟩, rfl⟩
end Go.Proofs.YtnkkhkpkipckiaaDoor.Pm
end
section
namespace Go.Proofs.YtnkkhkpkipckiaaDoor.Pm
open Go.RowKit K
set_option linter.unusedVariables false
set_option linter.unusedSimpArgs false
set_option maxRecDepth 100000
end Go.Proofs.YtnkkhkpkipckiaaDoor.Pm
end
section
namespace Go.Proofs.YtnkkhkpkipckiaaDoor.Pm
open Go.RowKit K
set_option linter.unusedVariables false
set_option linter.unusedSimpArgs false
set_option maxRecDepth 100000
structure EntryD where
 Id : Int
 Row : List ValueD
def EntryD.c (x : EntryD) : List C := [.v (.int .i64 x.Id), .sl 3 (x.Row.map ValueD.c)]
def EntryD.ok (x : EntryD) : Prop := okInt x.Id ∧ (okSl (Tryd.prog.bytesOf 23) ValueD.ok) x.Row
def rowChk (l : List ValueD) : Int := if 8 < l.length then 2 else vChkAll l
def riseE (id last : Int) : Int := if id < 1 then 3 else if id ≤ last then 4 else 0
def entGo (last : Int) : List EntryD → Int
 | [] => 0
 | x :: r => if riseE x.Id last ≠ 0 then riseE x.Id last else if rowChk x.Row ≠ 0 then rowChk x.Row else entGo x.Id r
def entChk (l : List EntryD) : Int := if 40 < l.length then 2 else entGo 0 l
def EntryD.eqB (x y : EntryD) : Bool := decide (x.Id = y.Id) && listEqB ValueD.eqB x.Row y.Row
theorem EntryD.eqB_iff (x y : EntryD) : EntryD.eqB x y = true ↔ x = y := by
 cases x; cases y
 simp [EntryD.eqB, listEqB_iff ValueD.eqB_iff]
abbrev rowsShort (l : List EntryD) : Prop := ∀ x ∈ l, x.Row.length ≤ 140737488355328
abbrev idBox (n : Int) : HB := .box 2 [.c (.v (.int .i64 n))]
end Go.Proofs.YtnkkhkpkipckiaaDoor.Pm
end
section
namespace Go.Proofs.YtnkkhkpkipckiaaDoor.Pm
open Go.RowKit K
set_option linter.unusedVariables false
set_option linter.unusedSimpArgs false
set_option maxRecDepth 100000
def flagB (b : Bool) (c : UInt8) : UInt8 := if b then c else 45
def colH (c : ColumnD) : List UInt8 := [by1 (48 + c.Kind), flagB c.NotNull 110, flagB c.Unique 117]
def colT (c : ColumnD) : List UInt8 := colH c ++ c.Name
def colV (c : ColumnD) : ValueD := ⟨2, 0, colT c⟩
def kindOk (c : ColumnD) : Prop := 0 ≤ c.Kind ∧ c.Kind ≤ 3
def entOf (s : SchemaD) : EntryD := ⟨s.Id, ⟨2, 0, s.Name⟩ :: s.Cols.map colV⟩
abbrev eV (x : EntryD) : PV := .agg (x.c.map D.c)
def unC (v : ValueD) : ColumnD := ⟨v.S.drop 3, ((v.S.getD 0 0).toNat : Int) - 48, decide (v.S.getD 1 0 = 110), decide (v.S.getD 2 0 = 117)⟩
def unShort (v : ValueD) : Prop := v.Kind ≠ 2 ∨ v.S.length < 3
def unB (v : ValueD) : Bool := decide (v.Kind = 2) && (decide (3 ≤ v.S.length) && (decide (0 ≤ (unC v).Kind) && (decide ((unC v).Kind ≤ 3) && ValueD.eqB (colV (unC v)) v)))
def unR (v : ValueD) : ColumnD := if v.Kind ≠ 2 ∨ v.S.length < 3 then ⟨[], 0, false, false⟩ else unC v
theorem tup2 {a b : PV} {x y : Bool} (h : a = b) (k : x = y) : PV.tup [a, pBool x] = PV.tup [b, pBool y] := by rw [h, k]
theorem u8_dec (a b : UInt8) : decide ((a.toNat : Int) = (b.toNat : Int)) = decide (a = b) := by
 by_cases h : a = b
 ·simp [h]
 ·rw [decide_eq_false h, decide_eq_false fun e => h (u8_eq.1 e)]
end Go.Proofs.YtnkkhkpkipckiaaDoor.Pm
end
section
namespace Go.Proofs.YtnkkhkpkipckiaaDoor.Pm
open Go.RowKit K
set_option linter.unusedVariables false
set_option linter.unusedSimpArgs false
set_option maxRecDepth 100000
def schB (x : EntryD) : Bool := match x.Row with
 | [] => false
 | v :: r => decide (v.Kind = 2) && r.all unB
def schS (x : EntryD) : SchemaD := match x.Row with
 | [] => ⟨0, [], []⟩
 | v :: r => ⟨x.Id, v.S, r.map unC⟩
def rowText (l : List ValueD) : Prop := l.length * 32 ≤ 140737488351232 ∧ ∀ v ∈ l, okText v.S
def entText (l : List EntryD) : Prop := l.length * 32 ≤ 140737488351232 ∧ ∀ x ∈ l, rowText x.Row
theorem unB_kind {v : ValueD} (h : unB v = true) : ¬ (v.Kind ≠ 2 ∨ v.S.length < 3) := by
 unfold unB at h
 simp only [Bool.and_eq_true, decide_eq_true_eq] at h
 omega
theorem unR_unC {v : ValueD} (h : unB v = true) : unR v = unC v := if_neg (unB_kind h)
abbrev tVal : Nat := 23
theorem map_take_snoc {α β : Type} {f : α → β} {l : List α} {k : Nat} (h : k < l.length) : (l.take k).map f ++ [f l[k]] = (l.take (k + 1)).map f := by
 rw [take_snoc h, List.map_append]; rfl
def catE (l : List EntryD) : Int := if entChk l ≠ 0 then entChk l else if l.all schB = false then 1 else schChk (l.map schS)
def catL (l : List EntryD) : List SchemaD := if catE l = 0 then l.map schS else []
theorem schS_sh {x : EntryD} (h : rowText x.Row) (hb : schB x = true) : okText (schS x).Name ∧ colsSh (schS x).Cols := by
 obtain ⟨id, row⟩ := x
 cases row with
 | nil => cases hb
 | cons v r =>
  obtain ⟨h1, h2⟩ := h
  refine ⟨h2 v (List.mem_cons_self ..), ?_, ?_⟩
  ·show (r.map unC).length ≤ _
   rw [List.length_map]
   have : (r.length + 1) * 32 ≤ 140737488351232 := h1
   omega
  ·intro c hc
   obtain ⟨w, hw, rfl⟩ := List.mem_map.1 hc
   have := h2 w (List.mem_cons_of_mem _ hw)
   unfold okText unC at *
   simp only [List.length_drop]; omega
theorem schS_all {l : List EntryD} (h : entText l) (hb : l.all schB = true) : schSh (l.map schS) := by
 refine ⟨by have := h.1; show _ ≤ _; rw [List.length_map]; omega, fun s hs => ?_⟩
 obtain ⟨x, hx, rfl⟩ := List.mem_map.1 hs
 exact schS_sh (h.2 x hx) (List.all_eq_true.1 hb x hx)
theorem entText_short {l : List EntryD} (h : entText l) : rowsShort l := fun x hx => by have := (h.2 x hx).1; omega
end Go.Proofs.YtnkkhkpkipckiaaDoor.Pm
end
section
namespace Go.Proofs.YtnkkhkpkipckiaaDoor.Pm
open Go.RowKit K
set_option linter.unusedVariables false
set_option linter.unusedSimpArgs false
set_option maxRecDepth 100000
theorem colsGo_ok : ∀ {l : List ColumnD} {seen : List (List UInt8)}, colsGo seen l = 0 → ∀ c ∈ l, kindOk c ∧ nameB c.Name = true
 | [], _, _, c, hc => by cases hc
 | x :: l, seen, h, c, hc => by
  unfold colsGo at h
  split at h
  ·cases h
  ·split at h
   ·cases h
   ·split at h
    ·cases h
    ·rename_i h1 h2 h3
     rcases List.mem_cons.1 hc with rfl | hc
     ·exact ⟨⟨by omega, by omega⟩, by simpa using h1⟩
     ·exact colsGo_ok h c hc
theorem colsChk_ok {l : List ColumnD} (h : colsChk l = 0) : (1 ≤ l.length ∧ l.length ≤ 6) ∧ ∀ c ∈ l, kindOk c ∧ nameB c.Name = true := by
 unfold colsChk at h
 split at h
 ·cases h
 ·split at h
  ·cases h
  ·exact ⟨by omega, colsGo_ok h⟩
theorem schGo_ok : ∀ {l : List SchemaD} {last : Int} {seen : List (List UInt8)}, schGo last seen l = 0 → ∀ s ∈ l, colsChk s.Cols = 0 ∧ nameB s.Name = true ∧ (1 ≤ s.Id ∧ s.Id ≤ 999)
 | [], _, _, _, s, hs => by cases hs
 | x :: l, last, seen, h, s, hs => by
  unfold schGo at h
  split at h
  ·cases h
  ·split at h
   ·cases h
   ·split at h
    ·cases h
    ·split at h
     ·rename_i h4; exact absurd h h4
     ·split at h
      ·cases h
      ·rename_i h1 h2 h3 h4 h5
       rcases List.mem_cons.1 hs with rfl | hs
       ·exact ⟨by omega, by simpa using h3, by omega⟩
       ·exact schGo_ok h s hs
theorem schChk_ok {l : List SchemaD} (h : schChk l = 0) : l.length ≤ 6 ∧ ∀ s ∈ l, colsChk s.Cols = 0 ∧ nameB s.Name = true ∧ (1 ≤ s.Id ∧ s.Id ≤ 999) := by
 unfold schChk at h
 split at h
 ·cases h
 ·exact ⟨by omega, schGo_ok h⟩
theorem p_digits0 : Pure Tryd.prog 57 [pInt .u64 0] (pStr (tx [])) := by
 refine pure_of Tryd.func57 (by rfl) rfl (by kernel_rfl) (by rfl) ?_
 ((conv => whnf); repeat' ((first | (with_reducible first | apply a_ | apply b_ | apply c_) | ((with_reducible first | apply d_ | apply e_ | apply f_ | apply g_); focus first | omega | (simp only [q_] <;> omega)) | ((with_reducible first | apply i_ | apply h_); focus first | omega | (simp only [q_] <;> omega)) | ((with_reducible apply h_); focus first | decide | kernel_rfl) | refine BCase.t (by decide) ?_ | refine BCase.f (by decide) ?_ | with_reducible first | apply l_ | apply m_ | apply n_ | apply o_ | refine p_ (fun _ => ?_) (fun _ => ?_)) <;> (conv => whnf)))
 exact Ret.mk rfl
theorem p_digit1 (n : Int) (h1 : 1 ≤ n) (h2 : n ≤ 9) : Pure Tryd.prog 57 [pInt .u64 n] (pStr (tx [by1 (n + 48)])) := by
 refine pure_of Tryd.func57 (by rfl) rfl (by kernel_rfl) (by rfl) ?_
 have e1 : n.tdiv 10 = 0 := by rw [tdiv_nn (by omega)]; omega
 have e2 : n.tmod 10 = n := by rw [tmod_nn (by omega)]; omega
 have p0 : Pure Tryd.prog 57 [pInt .u64 (n.tdiv 10)] (pStr (tx [])) := by rw [e1]; exact p_digits0
 have p1 : Pure Tryd.prog 59 [pInt .i64 (n.tmod 10 + 48)] (pStr (tx [by1 (n + 48)])) := by rw [e2]; exact p_onebyteN (n + 48)
 ((conv => whnf); repeat' ((first | (with_reducible first | apply a_ | apply b_ | apply c_) | ((with_reducible first | apply d_ | apply e_ | apply f_ | apply g_); focus first | omega | (simp only [q_] <;> omega)) | ((with_reducible first | apply i_ | apply h_); focus first | omega | (simp only [q_] <;> omega)) | ((with_reducible apply h_); focus first | decide | kernel_rfl) | refine BCase.t (by decide) ?_ | refine BCase.f (by decide) ?_ | refine CallP.pure _ rfl _ (p0) ?_ | refine CallP.pure _ rfl _ (p1) ?_ | with_reducible first | apply l_ | apply m_ | apply n_ | apply o_ | refine p_ (fun _ => ?_) (fun _ => ?_)) <;> (conv => whnf)))
 exact Ret.text rfl
theorem p_inttext (n : Int) (h1 : 0 ≤ n) (h2 : n ≤ 9) : Pure Tryd.prog 40 [pInt .i64 n] (pStr (tx [by1 (48 + n)])) := by
 refine pure_of Tryd.func40 (by rfl) rfl (by kernel_rfl) (by rfl) ?_
 by_cases h0 : n = 0
 ·subst h0
  ((conv => whnf); repeat' ((first | (with_reducible first | apply a_ | apply b_ | apply c_) | ((with_reducible first | apply d_ | apply e_ | apply f_ | apply g_); focus first | omega | (simp only [q_] <;> omega)) | ((with_reducible first | apply i_ | apply h_); focus first | omega | (simp only [q_] <;> omega)) | ((with_reducible apply h_); focus first | decide | kernel_rfl) | refine BCase.t (by decide) ?_ | refine BCase.f (by decide) ?_ | with_reducible first | apply l_ | apply m_ | apply n_ | apply o_ | refine p_ (fun _ => ?_) (fun _ => ?_)) <;> (conv => whnf)))
  exact Ret.text rfl
 ·have pd := p_digit1 n (by omega) h2
  ((conv => whnf); repeat' ((first | (with_reducible first | apply a_ | apply b_ | apply c_) | ((with_reducible first | apply d_ | apply e_ | apply f_ | apply g_); focus first | omega | (simp only [q_] <;> omega)) | ((with_reducible first | apply i_ | apply h_); focus first | omega | (simp only [q_] <;> omega)) | ((with_reducible apply h_); focus first | decide | kernel_rfl) | refine BCase.t (by decide) ?_ | refine BCase.f (by decide) ?_ | refine CallP.pure _ rfl _ (pd) ?_ | with_reducible first | apply l_ | apply m_ | apply n_ | apply o_ | refine p_ (fun _ => ?_) (fun _ => ?_)) <;> (conv => whnf)))
  exact Ret.text (by rw [Int.add_comm])
def rowsL (l : List SchemaD) : List EntryD := if schChk l = 0 then l.map entOf else []
end Go.Proofs.YtnkkhkpkipckiaaDoor.Pm
end
section
namespace Go.Proofs.YtnkkhkpkipckiaaDoor.Pm
open Go.RowKit K
set_option linter.unusedVariables false
set_option linter.unusedSimpArgs false
set_option maxRecDepth 100000
def digL (n : Nat) : List UInt8 := if n = 0 then [] else Lib.decDigits n
theorem digL_step {n : Nat} (h : n ≠ 0) : digL n = digL (n / 10) ++ [UInt8.ofNat (48 + n % 10)] := by
 unfold digL
 rw [if_neg h, Lib.decDigits]
 by_cases h10 : n < 10
 ·rw [dif_pos h10, if_pos (by omega), show n % 10 = n by omega]; rfl
 ·rw [dif_neg h10, if_neg (by omega)]
theorem digL_len : ∀ (k n : Nat), n < 10 ^ k → (digL n).length ≤ k
 | 0, n, h => by
  have : n = 0 := by simpa using h
  subst this
  simp [digL]
 | k + 1, n, h => by
  by_cases h0 : n = 0
  ·subst h0; simp [digL]
  ·rw [digL_step h0, List.length_append, List.length_singleton]
   have := digL_len k (n / 10) (by rw [Nat.pow_succ] at h; omega)
   omega
theorem p_digitsof : ∀ (N n : Nat), n ≤ N → n ≤ 18446744073709551615 → Pure Tryd.prog 57 [pInt .u64 (n : Int)] (pStr (tx (digL n)))
 | N, n, hN, hn => by
  by_cases h0 : n = 0
  ·subst h0; exact p_digits0
  ·match N, hN with
   | 0, hN => exact absurd (Nat.le_zero.1 hN) h0
   | N + 1, hN =>
    have e1 : (n : Int).tdiv 10 = ((n / 10 : Nat) : Int) := by rw [tdiv_nn (by omega)]; omega
    have e2 : (n : Int).tmod 10 = ((n % 10 : Nat) : Int) := by rw [tmod_nn (by omega)]; omega
    have p0 : Pure Tryd.prog 57 [pInt .u64 ((n : Int).tdiv 10)] (pStr (tx (digL (n / 10)))) := by rw [e1]; exact p_digitsof N (n / 10) (by omega) (by omega)
    have p1 : Pure Tryd.prog 59 [pInt .i64 ((n : Int).tmod 10 + 48)] (pStr (tx [UInt8.ofNat (48 + n % 10)])) := by
     have : UInt8.ofNat (48 + n % 10) = by1 ((n : Int).tmod 10 + 48) := by
      rw [e2, ← by1_toNat (UInt8.ofNat (48 + n % 10)), u8_small (by omega)]
      congr 1; omega
     rw [this]
     exact p_onebyteN _
    have hl := digL_len 20 (n / 10) (by show _ < 100000000000000000000; omega)
    have tz := tx_size (digL (n / 10))
    refine pure_of Tryd.func57 (by rfl) rfl (by kernel_rfl) (by rfl) ?_
    ((conv => whnf); repeat' ((first | (with_reducible first | apply a_ | apply b_ | apply c_) | ((with_reducible first | apply d_ | apply e_ | apply f_ | apply g_); focus first | omega | (simp only [q_] <;> omega)) | ((with_reducible first | apply i_ | apply h_); focus first | omega | (simp only [q_] <;> omega)) | ((with_reducible apply h_); focus first | decide | kernel_rfl) | refine BCase.t (by decide) ?_ | refine BCase.f (by decide) ?_ | refine CallP.pure _ rfl _ (p0) ?_ | refine CallP.pure _ rfl _ (p1) ?_ | (refine Need.mk (by show (digL (n / 10)).length + 1 ≤ _; omega) ?_) | with_reducible first | apply l_ | apply m_ | apply n_ | apply o_ | refine p_ (fun _ => ?_) (fun _ => ?_)) <;> (conv => whnf)))
    exact Ret.text (digL_step h0).symm
theorem p_inttextN (n : Int) (h1 : -9223372036854775808 ≤ n) (h2 : n ≤ 9223372036854775807) : Pure Tryd.prog 40 [pInt .i64 n] (pStr (tx (Lib.itoa n))) := by
 refine pure_of Tryd.func40 (by rfl) rfl (by kernel_rfl) (by rfl) ?_
 by_cases h0 : n = 0
 ·subst h0
  ((conv => whnf); repeat' ((first | (with_reducible first | apply a_ | apply b_ | apply c_) | ((with_reducible first | apply d_ | apply e_ | apply f_ | apply g_); focus first | omega | (simp only [q_] <;> omega)) | ((with_reducible first | apply i_ | apply h_); focus first | omega | (simp only [q_] <;> omega)) | ((with_reducible apply h_); focus first | decide | kernel_rfl) | refine BCase.t (by decide) ?_ | refine BCase.f (by decide) ?_ | with_reducible first | apply l_ | apply m_ | apply n_ | apply o_ | refine p_ (fun _ => ?_) (fun _ => ?_)) <;> (conv => whnf)))
  refine Ret.text ?_
  unfold Lib.itoa
  rw [if_neg (by decide), Lib.decDigits, dif_pos (by decide)]; rfl
 ·by_cases hn : n < 0
  ·have e : (0 - (n + 1)) + 1 = ((n.natAbs : Nat) : Int) := by omega
   have pd : Pure Tryd.prog 57 [pInt .u64 ((0 - (n + 1)) + 1)] (pStr (tx (digL n.natAbs))) := by rw [e]; exact p_digitsof _ _ (Nat.le_refl _) (by omega)
   have hl := digL_len 20 n.natAbs (by show _ < 100000000000000000000; omega)
   have tz := tx_size (digL n.natAbs)
   ((conv => whnf); repeat' ((first | (with_reducible first | apply a_ | apply b_ | apply c_) | ((with_reducible first | apply d_ | apply e_ | apply f_ | apply g_); focus first | omega | (simp only [q_] <;> omega)) | ((with_reducible first | apply i_ | apply h_); focus first | omega | (simp only [q_] <;> omega)) | ((with_reducible apply h_); focus first | decide | kernel_rfl) | refine BCase.t (by decide) ?_ | refine BCase.f (by decide) ?_ | refine CallP.pure _ rfl _ (pd) ?_ | (refine Need.mk (by show 1 + (digL n.natAbs).length ≤ _; omega) ?_) | with_reducible first | apply l_ | apply m_ | apply n_ | apply o_ | refine p_ (fun _ => ?_) (fun _ => ?_)) <;> (conv => whnf)))
   refine Ret.text (a := [45] ++ digL n.natAbs) ?_
   unfold Lib.itoa digL
   rw [if_pos hn, if_neg (by omega)]; rfl
  ·have e : n = ((n.toNat : Nat) : Int) := by omega
   have pd : Pure Tryd.prog 57 [pInt .u64 n] (pStr (tx (digL n.toNat))) := by rw [show pInt .u64 n = pInt .u64 ((n.toNat : Nat) : Int) by rw [← e]]; exact p_digitsof _ _ (Nat.le_refl _) (by omega)
   ((conv => whnf); repeat' ((first | (with_reducible first | apply a_ | apply b_ | apply c_) | ((with_reducible first | apply d_ | apply e_ | apply f_ | apply g_); focus first | omega | (simp only [q_] <;> omega)) | ((with_reducible first | apply i_ | apply h_); focus first | omega | (simp only [q_] <;> omega)) | ((with_reducible apply h_); focus first | decide | kernel_rfl) | refine BCase.t (by decide) ?_ | refine BCase.f (by decide) ?_ | refine CallP.pure _ rfl _ (pd) ?_ | with_reducible first | apply l_ | apply m_ | apply n_ | apply o_ | refine p_ (fun _ => ?_) (fun _ => ?_)) <;> (conv => whnf)))
   refine Ret.text ?_
   unfold Lib.itoa digL
   rw [if_neg hn, if_neg (by omega)]
theorem p_hexdigit (n : Nat) (h : n < 16) : Pure Tryd.prog 41 [pInt .i64 (n : Int)] (pStr (tx [hexd n])) := by
 have : n = 0 ∨ n = 1 ∨ n = 2 ∨ n = 3 ∨ n = 4 ∨ n = 5 ∨ n = 6 ∨ n = 7 ∨ n = 8 ∨ n = 9 ∨ n = 10 ∨ n = 11 ∨ n = 12 ∨ n = 13 ∨ n = 14 ∨ n = 15 := by omega
 have e : ∀ k, k < 16 → (⟨#[48, 49, 50, 51, 52, 53, 54, 55, 56, 57, 97, 98, 99, 100, 101, 102]⟩ : ByteArray).extract ((k : Nat) : Int).toNat (((k : Nat) : Int) + 1).toNat = tx [hexd k] := by decide +kernel
 refine pure_of Tryd.func41 (by rfl) rfl (by kernel_rfl) (by rfl) ?_
 ((conv => whnf); repeat' ((first | (with_reducible first | apply a_ | apply b_ | apply c_) | ((with_reducible first | apply d_ | apply e_ | apply f_ | apply g_); focus first | omega | (simp only [q_] <;> omega)) | ((with_reducible first | apply i_ | apply h_); focus first | omega | (simp only [q_] <;> omega)) | ((with_reducible apply h_); focus first | decide | kernel_rfl) | refine BCase.t (by decide) ?_ | refine BCase.f (by decide) ?_ | (refine Need.mk (by show (0 : Int) ≤ n ∧ (n : Int) ≤ n + 1 ∧ (n : Int) + 1 ≤ (16 : Int); omega) ?_) | with_reducible first | apply l_ | apply m_ | apply n_ | apply o_ | refine p_ (fun _ => ?_) (fun _ => ?_)) <;> (conv => whnf)))
 exact Ret.str (e n h)
theorem p_hexof (c : UInt8) : Pure Tryd.prog 58 [pInt .u8 (c.toNat : Int)] (pInt .i64 (hexI c)) := by
 have hc := c.toNat_lt
 refine pure_of Tryd.func58 (by rfl) rfl (by kernel_rfl) (by rfl) ?_
 unfold hexI hexv
 by_cases h1 : 48 ≤ c.toNat ∧ c.toNat ≤ 57
 ·rw [if_pos h1]
  ((conv => whnf); repeat' ((first | (with_reducible first | apply a_ | apply b_ | apply c_) | ((with_reducible first | apply d_ | apply e_ | apply f_ | apply g_); focus first | omega | (simp only [q_] <;> omega)) | ((with_reducible first | apply i_ | apply h_); focus first | omega | (simp only [q_] <;> omega)) | ((with_reducible apply h_); focus first | decide | kernel_rfl) | refine BCase.t (by decide) ?_ | refine BCase.f (by decide) ?_ | with_reducible first | apply l_ | apply m_ | apply n_ | apply o_ | refine p_ (fun _ => ?_) (fun _ => ?_)) <;> (conv => whnf)))
  all_goals exact Ret.int (by show _ = ((c.toNat - 48 : Nat) : Int); omega)
 ·rw [if_neg h1]
  by_cases h2 : 97 ≤ c.toNat ∧ c.toNat ≤ 102
  ·rw [if_pos h2]
   ((conv => whnf); repeat' ((first | (with_reducible first | apply a_ | apply b_ | apply c_) | ((with_reducible first | apply d_ | apply e_ | apply f_ | apply g_); focus first | omega | (simp only [q_] <;> omega)) | ((with_reducible first | apply i_ | apply h_); focus first | omega | (simp only [q_] <;> omega)) | ((with_reducible apply h_); focus first | decide | kernel_rfl) | refine BCase.t (by decide) ?_ | refine BCase.f (by decide) ?_ | with_reducible first | apply l_ | apply m_ | apply n_ | apply o_ | refine p_ (fun _ => ?_) (fun _ => ?_)) <;> (conv => whnf)))
   all_goals first
    | exact Ret.int (by show _ = ((c.toNat - 87 : Nat) : Int); omega)
    | (exfalso; omega)
  ·rw [if_neg h2]
   ((conv => whnf); repeat' ((first | (with_reducible first | apply a_ | apply b_ | apply c_) | ((with_reducible first | apply d_ | apply e_ | apply f_ | apply g_); focus first | omega | (simp only [q_] <;> omega)) | ((with_reducible first | apply i_ | apply h_); focus first | omega | (simp only [q_] <;> omega)) | ((with_reducible apply h_); focus first | decide | kernel_rfl) | refine BCase.t (by decide) ?_ | refine BCase.f (by decide) ?_ | with_reducible first | apply l_ | apply m_ | apply n_ | apply o_ | refine p_ (fun _ => ?_) (fun _ => ?_)) <;> (conv => whnf)))
   all_goals first
    | exact Ret.int rfl
    | (exfalso; omega)
end Go.Proofs.YtnkkhkpkipckiaaDoor.Pm
end
section
namespace Go.Proofs.YtnkkhkpkipckiaaDoor.Pm
open Go.RowKit K
set_option linter.unusedVariables false
set_option linter.unusedSimpArgs false
set_option maxRecDepth 100000
theorem p_textless (a b : List UInt8) (ha : okText a) (hb : okText b) : Pure Tryd.prog 51 [pStr (tx a), pStr (tx b)] (pBool (decide (Lib.compareBytes a b < 0))) := by
 refine pure_hand (vs := [.string (tx a), .string (tx b)]) ⟨_, Tryd.func51, by rfl, by rfl⟩ fun w hG => ?_
 refine (ValP.textless_any (tx a) (tx b) w ha hb).mono ?_
 rintro e w' ⟨rfl, hbl⟩
 exact ⟨_, rfl, hbl, fun F _ => rep_bool _⟩
theorem p_alldigits (s : List UInt8) (hs : okText s) : Pure Tryd.prog 60 [pStr (tx s)] (pBool (allB s)) := by
 have hz := tx_size s
 have hs' : s.length ≤ 140737488351232 := hs
 have d48 : ∀ c : UInt8, c = 48 ↔ ((c.toNat : Nat) : Int) = 48 := fun c => ⟨fun e => by rw [e]; rfl, fun e => by rw [← u8_back c, show c.toNat = 48 by omega]; rfl⟩
 have h48 := d48 (s.getD 0 0)
 rw [← headD_get] at h48
 rw [headD_get] at h48
 refine pure_of Tryd.func60 (by rfl) rfl (by kernel_rfl) (by rfl) ?_
 ((conv => whnf); repeat' ((first | (with_reducible first | apply a_ | apply b_ | apply c_) | ((with_reducible first | apply d_ | apply e_ | apply f_ | apply g_); focus first | omega | (simp only [q_] <;> omega)) | ((with_reducible first | apply i_ | apply h_); focus first | omega | (simp only [q_] <;> omega)) | ((with_reducible apply h_); focus first | decide | kernel_rfl) | refine BCase.t (by decide) ?_ | refine BCase.f (by decide) ?_ | with_reducible first | apply l_ | apply m_ | apply n_ | apply o_ | refine p_ (fun _ => ?_) (fun _ => ?_)) <;> (conv => whnf)))
 refine LoopC.mk Nat (fun k => [(0, pStr (tx s)), (3, pInt .i64 (k : Int))]) (fun _ => []) [] (fun k => k ≤ s.length ∧ (s.take k).all isDig = true) (fun k => s.length - k) 0 ⟨Nat.zero_le _, by rw [List.take_zero]; rfl⟩ ?start ?round
 case start => exact ⟨[], rfl, rfl, ⟨.inl rfl, .inl rfl, trivial⟩, trivial⟩
 case round =>
  rintro k ⟨hk, ha⟩
  have hk : k ≤ s.length := hk
  have ha : (s.take k).all isDig = true := ha
  by_cases q : k < s.length
  ·have eg : s.getD k 0 = s[k] := by rw [List.getD_eq_getElem?_getD, List.getElem?_eq_getElem q]; rfl
   have hall : (s.take (k + 1)).all isDig = ((s.take k).all isDig && isDig s[k]) := by rw [take_snoc q, List.all_append]; simp
   by_cases hd : isDig s[k] = true
   ·have hd2 := of_decide_eq_true hd
    rw [← eg] at hd2
    ((conv => whnf); repeat' ((first | (with_reducible first | apply a_ | apply b_ | apply c_) | ((with_reducible first | apply d_ | apply e_ | apply f_ | apply g_); focus first | omega | (simp only [q_] <;> omega)) | ((with_reducible first | apply i_ | apply h_); focus first | omega | (simp only [q_] <;> omega)) | ((with_reducible apply h_); focus first | decide | kernel_rfl) | refine BCase.t (by decide) ?_ | refine BCase.f (by decide) ?_ | (refine SIdx.tx k rfl q ?_) | with_reducible first | apply l_ | apply m_ | apply n_ | apply o_ | refine p_ (fun _ => ?_) (fun _ => ?_)) <;> (conv => whnf)))
    exact ⟨k + 1, ⟨by show k + 1 ≤ _; omega, by show (s.take (k + 1)).all isDig = true; rw [hall, ha, hd]; rfl⟩, by show s.length - (k + 1) < s.length - k; omega, [], rfl, rfl, ⟨.inl rfl, PLe.int (by omega), trivial⟩, trivial⟩
   ·have hd2 : ¬ (48 ≤ s[k].toNat ∧ s[k].toNat ≤ 57) := fun x => hd (decide_eq_true x)
    rw [← eg] at hd2
    have hf : allB s = false := by
     unfold allB
     cases hx : s.all isDig with
     | false => rfl
     | true => exact absurd (List.all_eq_true.1 hx _ (List.getElem_mem q)) hd
    rw [hf]
    ((conv => whnf); repeat' ((first | (with_reducible first | apply a_ | apply b_ | apply c_) | ((with_reducible first | apply d_ | apply e_ | apply f_ | apply g_); focus first | omega | (simp only [q_] <;> omega)) | ((with_reducible first | apply i_ | apply h_); focus first | omega | (simp only [q_] <;> omega)) | ((with_reducible apply h_); focus first | decide | kernel_rfl) | refine BCase.t (by decide) ?_ | refine BCase.f (by decide) ?_ | (refine SIdx.tx k rfl q ?_) | with_reducible first | apply l_ | apply m_ | apply n_ | apply o_ | refine p_ (fun _ => ?_) (fun _ => ?_)) <;> (conv => whnf)))
    all_goals first
     | exact Ret.bool rfl
     | (exfalso; omega)
  ·rw [List.take_of_length_le (by omega)] at ha
   unfold allB
   rw [ha]
   by_cases h1 : s.length = 1
   ·((conv => whnf); repeat' ((first | (with_reducible first | apply a_ | apply b_ | apply c_) | ((with_reducible first | apply d_ | apply e_ | apply f_ | apply g_); focus first | omega | (simp only [q_] <;> omega)) | ((with_reducible first | apply i_ | apply h_); focus first | omega | (simp only [q_] <;> omega)) | ((with_reducible apply h_); focus first | decide | kernel_rfl) | refine BCase.t (by decide) ?_ | refine BCase.f (by decide) ?_ | with_reducible first | apply l_ | apply m_ | apply n_ | apply o_ | refine p_ (fun _ => ?_) (fun _ => ?_)) <;> (conv => whnf)))
    all_goals exact Ret.bool (by rw [decide_eq_true h1]; rfl)
   ·by_cases h2 : 1 < s.length
    ·((conv => whnf); repeat' ((first | (with_reducible first | apply a_ | apply b_ | apply c_) | ((with_reducible first | apply d_ | apply e_ | apply f_ | apply g_); focus first | omega | (simp only [q_] <;> omega)) | ((with_reducible first | apply i_ | apply h_); focus first | omega | (simp only [q_] <;> omega)) | ((with_reducible apply h_); focus first | decide | kernel_rfl) | refine BCase.t (by decide) ?_ | refine BCase.f (by decide) ?_ | (refine SIdx.tx 0 rfl (by omega) ?_) | with_reducible first | apply l_ | apply m_ | apply n_ | apply o_ | refine p_ (fun _ => ?_) (fun _ => ?_)) <;> (conv => whnf)))
     all_goals
      refine Ret.bool ?_
      rw [decide_eq_false h1, decide_eq_true h2, Bool.true_and, Bool.false_or, Bool.true_and, headD_get]
      exact decide_eq_decide.2 (not_congr h48.symm)
    ·((conv => whnf); repeat' ((first | (with_reducible first | apply a_ | apply b_ | apply c_) | ((with_reducible first | apply d_ | apply e_ | apply f_ | apply g_); focus first | omega | (simp only [q_] <;> omega)) | ((with_reducible first | apply i_ | apply h_); focus first | omega | (simp only [q_] <;> omega)) | ((with_reducible apply h_); focus first | decide | kernel_rfl) | refine BCase.t (by decide) ?_ | refine BCase.f (by decide) ?_ | with_reducible first | apply l_ | apply m_ | apply n_ | apply o_ | refine p_ (fun _ => ?_) (fun _ => ?_)) <;> (conv => whnf)))
     all_goals exact Ret.bool (by rw [decide_eq_false h1, decide_eq_false h2]; rfl)
theorem p_lessdigits (a b : List UInt8) (ha : okText a) (hb : okText b) : Pure Tryd.prog 61 [pStr (tx a), pStr (tx b)] (pBool (lessB a b)) := by
 have az := tx_size a
 have bz := tx_size b
 have pt := p_textless b a hb ha
 refine pure_of Tryd.func61 (by rfl) rfl (by kernel_rfl) (by rfl) ?_
 unfold lessB
 by_cases h1 : a.length < b.length
 ·((conv => whnf); repeat' ((first | (with_reducible first | apply a_ | apply b_ | apply c_) | ((with_reducible first | apply d_ | apply e_ | apply f_ | apply g_); focus first | omega | (simp only [q_] <;> omega)) | ((with_reducible first | apply i_ | apply h_); focus first | omega | (simp only [q_] <;> omega)) | ((with_reducible apply h_); focus first | decide | kernel_rfl) | refine BCase.t (by decide) ?_ | refine BCase.f (by decide) ?_ | refine CallP.pure _ rfl _ (pt) ?_ | with_reducible first | apply l_ | apply m_ | apply n_ | apply o_ | refine p_ (fun _ => ?_) (fun _ => ?_)) <;> (conv => whnf)))
  all_goals exact Ret.bool (by rw [decide_eq_true h1]; rfl)
 ·by_cases h2 : a.length = b.length
  ·((conv => whnf); repeat' ((first | (with_reducible first | apply a_ | apply b_ | apply c_) | ((with_reducible first | apply d_ | apply e_ | apply f_ | apply g_); focus first | omega | (simp only [q_] <;> omega)) | ((with_reducible first | apply i_ | apply h_); focus first | omega | (simp only [q_] <;> omega)) | ((with_reducible apply h_); focus first | decide | kernel_rfl) | refine BCase.t (by decide) ?_ | refine BCase.f (by decide) ?_ | refine CallP.pure _ rfl _ (pt) ?_ | with_reducible first | apply l_ | apply m_ | apply n_ | apply o_ | refine p_ (fun _ => ?_) (fun _ => ?_)) <;> (conv => whnf)))
   all_goals
    refine Ret.bool ?_
    rw [decide_eq_false h1, decide_eq_true h2, Bool.false_or, Bool.true_and]
  ·((conv => whnf); repeat' ((first | (with_reducible first | apply a_ | apply b_ | apply c_) | ((with_reducible first | apply d_ | apply e_ | apply f_ | apply g_); focus first | omega | (simp only [q_] <;> omega)) | ((with_reducible first | apply i_ | apply h_); focus first | omega | (simp only [q_] <;> omega)) | ((with_reducible apply h_); focus first | decide | kernel_rfl) | refine BCase.t (by decide) ?_ | refine BCase.f (by decide) ?_ | refine CallP.pure _ rfl _ (pt) ?_ | with_reducible first | apply l_ | apply m_ | apply n_ | apply o_ | refine p_ (fun _ => ?_) (fun _ => ?_)) <;> (conv => whnf)))
   all_goals exact Ret.bool (by rw [decide_eq_false h1, decide_eq_false h2]; rfl)
theorem most1_dig : tx [57, 50, 50, 51, 51, 55, 50, 48, 51, 54, 56, 53, 52, 55, 55, 53, 56, 48, 55] = ⟨#[57, 50, 50, 51, 51, 55, 50, 48, 51, 54, 56, 53, 52, 55, 55, 53, 56, 48, 55]⟩ := rfl
theorem p_intof (s : List UInt8) (hs : okText s) (below : Bool) : Pure Tryd.prog 44 [pStr (tx s), pBool below] (.tup [pInt .i64 (intO s below).1, pInt .i64 (intO s below).2]) := by
 have hz := tx_size s
 have hs' : s.length ≤ 140737488351232 := hs
 have pa := p_alldigits s hs
 have e48 : tx s = ⟨#[48]⟩ ↔ s = [48] := tx_eq (b := [48])
 have p1 := p_lessdigits s [57, 50, 50, 51, 51, 55, 50, 48, 51, 54, 56, 53, 52, 55, 55, 53, 56, 48, 55] hs (by unfold okText; decide)
 have p2 := p_lessdigits s [57, 50, 50, 51, 51, 55, 50, 48, 51, 54, 56, 53, 52, 55, 55, 53, 56, 48, 56] hs (by unfold okText; decide)
 refine pure_of Tryd.func44 (by rfl) rfl (by kernel_rfl) (by rfl) ?_
 by_cases ha : allB s = true
 ·rw [ha] at pa
  rw [less_iff ha (by decide)] at p1 p2
  have v1 : dval [57, 50, 50, 51, 51, 55, 50, 48, 51, 54, 56, 53, 52, 55, 55, 53, 56, 48, 55] = 9223372036854775807 := by decide
  have v2 : dval [57, 50, 50, 51, 51, 55, 50, 48, 51, 54, 56, 53, 52, 55, 55, 53, 56, 48, 56] = 9223372036854775808 := by decide
  rw [v1] at p1
  rw [v2] at p2
  have hd := ((allB_iff s).1 ha).1
  cases below with
  | true =>
   by_cases h0 : s = [48]
   ·rw [show intO s true = (0, 1) from if_pos (.inr ⟨rfl, h0⟩)]
    ((conv => whnf); repeat' ((first | (with_reducible first | apply a_ | apply b_ | apply c_) | ((with_reducible first | apply d_ | apply e_ | apply f_ | apply g_); focus first | omega | (simp only [q_] <;> omega)) | ((with_reducible first | apply i_ | apply h_); focus first | omega | (simp only [q_] <;> omega)) | ((with_reducible apply h_); focus first | decide | kernel_rfl) | refine BCase.t (by decide) ?_ | refine BCase.f (by decide) ?_ | refine CallP.pure _ rfl _ (pa) ?_ | (refine BCase.dt (e48.2 h0) ?_) | with_reducible first | apply l_ | apply m_ | apply n_ | apply o_ | refine p_ (fun _ => ?_) (fun _ => ?_)) <;> (conv => whnf)))
    all_goals exact Ret.eq rfl
   ·have h0' : ¬ tx s = ⟨#[48]⟩ := fun x => h0 (e48.1 x)
    rw [intO_ok true ha (fun _ => h0)]
    by_cases hb : most2 < dval s
    ·rw [if_pos (show (if (true : Bool) = true then most2 else most1) < dval s from hb)]
     have hb2 : ¬ dval s ≤ 9223372036854775808 := Nat.not_le.2 hb
     ((conv => whnf); repeat' ((first | (with_reducible first | apply a_ | apply b_ | apply c_) | ((with_reducible first | apply d_ | apply e_ | apply f_ | apply g_); focus first | omega | (simp only [q_] <;> omega)) | ((with_reducible first | apply i_ | apply h_); focus first | omega | (simp only [q_] <;> omega)) | ((with_reducible apply h_); focus first | decide | kernel_rfl) | refine BCase.t (by decide) ?_ | refine BCase.f (by decide) ?_ | refine CallP.pure _ rfl _ (pa) ?_ | refine CallP.pure _ rfl _ (p2) ?_ | (refine BCase.df h0' ?_) | with_reducible first | apply l_ | apply m_ | apply n_ | apply o_ | refine p_ (fun _ => ?_) (fun _ => ?_)) <;> (conv => whnf)))
     all_goals exact Ret.eq rfl
    ·rw [if_neg (show ¬ (if (true : Bool) = true then most2 else most1) < dval s from hb)]
     have hb2 : dval s ≤ 9223372036854775808 := Nat.not_lt.1 hb
     ((conv => whnf); repeat' ((first | (with_reducible first | apply a_ | apply b_ | apply c_) | ((with_reducible first | apply d_ | apply e_ | apply f_ | apply g_); focus first | omega | (simp only [q_] <;> omega)) | ((with_reducible first | apply i_ | apply h_); focus first | omega | (simp only [q_] <;> omega)) | ((with_reducible apply h_); focus first | decide | kernel_rfl) | refine BCase.t (by decide) ?_ | refine BCase.f (by decide) ?_ | refine CallP.pure _ rfl _ (pa) ?_ | refine CallP.pure _ rfl _ (p2) ?_ | (refine BCase.df h0' ?_) | with_reducible first | apply l_ | apply m_ | apply n_ | apply o_ | refine p_ (fun _ => ?_) (fun _ => ?_)) <;> (conv => whnf)))
     refine LoopC.mk Nat (fun k => [(0, pStr (tx s)), (1, pBool true), (6, pInt .i64 (-(dval (s.take k) : Int))), (7, pInt .i64 (k : Int))]) (fun _ => []) [] (fun k => k ≤ s.length) (fun k => s.length - k) 0 (Nat.zero_le _) ?start ?round
     case start => exact ⟨[], rfl, rfl, ⟨.inl rfl, .inl rfl, PLe.int (by rw [List.take_zero]; rfl), .inl rfl, trivial⟩, trivial⟩
     case round =>
      intro k hk
      have hk : k ≤ s.length := hk
      by_cases q : k < s.length
      ·have eg : s.getD k 0 = s[k] := by rw [List.getD_eq_getElem?_getD, List.getElem?_eq_getElem q]; rfl
       have hdk := of_decide_eq_true (List.all_eq_true.1 hd _ (List.getElem_mem q))
       have hv := dval_take q
       have hp := dval_pre s (k + 1)
       rw [← eg] at hdk hv
       ((conv => whnf); repeat' ((first | (with_reducible first | apply a_ | apply b_ | apply c_) | ((with_reducible first | apply d_ | apply e_ | apply f_ | apply g_); focus first | omega | (simp only [q_] <;> omega)) | ((with_reducible first | apply i_ | apply h_); focus first | omega | (simp only [q_] <;> omega)) | ((with_reducible apply h_); focus first | decide | kernel_rfl) | refine BCase.t (by decide) ?_ | refine BCase.f (by decide) ?_ | (refine SIdx.tx k rfl q ?_) | with_reducible first | apply l_ | apply m_ | apply n_ | apply o_ | refine p_ (fun _ => ?_) (fun _ => ?_)) <;> (conv => whnf)))
       exact ⟨k + 1, by show k + 1 ≤ _; omega, by show s.length - (k + 1) < s.length - k; omega, [], rfl, rfl, ⟨.inl rfl, .inl rfl, PLe.int (by omega), PLe.int (by omega), trivial⟩, trivial⟩
      ·((conv => whnf); repeat' ((first | (with_reducible first | apply a_ | apply b_ | apply c_) | ((with_reducible first | apply d_ | apply e_ | apply f_ | apply g_); focus first | omega | (simp only [q_] <;> omega)) | ((with_reducible first | apply i_ | apply h_); focus first | omega | (simp only [q_] <;> omega)) | ((with_reducible apply h_); focus first | decide | kernel_rfl) | refine BCase.t (by decide) ?_ | refine BCase.f (by decide) ?_ | with_reducible first | apply l_ | apply m_ | apply n_ | apply o_ | refine p_ (fun _ => ?_) (fun _ => ?_)) <;> (conv => whnf)))
       refine Ret.eq ?_
       rw [List.take_of_length_le (by omega)]; rfl
  | false =>
   rw [intO_ok false ha (fun x => by cases x)]
   by_cases hb : most1 < dval s
   ·rw [if_pos (show (if (false : Bool) = true then most2 else most1) < dval s from hb)]
    have hb2 : ¬ dval s ≤ 9223372036854775807 := Nat.not_le.2 hb
    ((conv => whnf); repeat' ((first | (with_reducible first | apply a_ | apply b_ | apply c_) | ((with_reducible first | apply d_ | apply e_ | apply f_ | apply g_); focus first | omega | (simp only [q_] <;> omega)) | ((with_reducible first | apply i_ | apply h_); focus first | omega | (simp only [q_] <;> omega)) | ((with_reducible apply h_); focus first | decide | kernel_rfl) | refine BCase.t (by decide) ?_ | refine BCase.f (by decide) ?_ | refine CallP.pure _ rfl _ (pa) ?_ | refine CallP.pure _ rfl _ (p1) ?_ | with_reducible first | apply l_ | apply m_ | apply n_ | apply o_ | refine p_ (fun _ => ?_) (fun _ => ?_)) <;> (conv => whnf)))
    all_goals exact Ret.eq rfl
   ·rw [if_neg (show ¬ (if (false : Bool) = true then most2 else most1) < dval s from hb)]
    have hb2 : dval s ≤ 9223372036854775807 := Nat.not_lt.1 hb
    ((conv => whnf); repeat' ((first | (with_reducible first | apply a_ | apply b_ | apply c_) | ((with_reducible first | apply d_ | apply e_ | apply f_ | apply g_); focus first | omega | (simp only [q_] <;> omega)) | ((with_reducible first | apply i_ | apply h_); focus first | omega | (simp only [q_] <;> omega)) | ((with_reducible apply h_); focus first | decide | kernel_rfl) | refine BCase.t (by decide) ?_ | refine BCase.f (by decide) ?_ | refine CallP.pure _ rfl _ (pa) ?_ | refine CallP.pure _ rfl _ (p1) ?_ | with_reducible first | apply l_ | apply m_ | apply n_ | apply o_ | refine p_ (fun _ => ?_) (fun _ => ?_)) <;> (conv => whnf)))
    refine LoopC.mk Nat (fun k => [(0, pStr (tx s)), (1, pBool false), (6, pInt .i64 (dval (s.take k) : Int)), (7, pInt .i64 (k : Int))]) (fun _ => []) [] (fun k => k ≤ s.length) (fun k => s.length - k) 0 (Nat.zero_le _) ?start ?round
    case start => exact ⟨[], rfl, rfl, ⟨.inl rfl, .inl rfl, PLe.int (by rw [List.take_zero]; rfl), .inl rfl, trivial⟩, trivial⟩
    case round =>
     intro k hk
     have hk : k ≤ s.length := hk
     by_cases q : k < s.length
     ·have eg : s.getD k 0 = s[k] := by rw [List.getD_eq_getElem?_getD, List.getElem?_eq_getElem q]; rfl
      have hdk := of_decide_eq_true (List.all_eq_true.1 hd _ (List.getElem_mem q))
      have hv := dval_take q
      have hp := dval_pre s (k + 1)
      rw [← eg] at hdk hv
      ((conv => whnf); repeat' ((first | (with_reducible first | apply a_ | apply b_ | apply c_) | ((with_reducible first | apply d_ | apply e_ | apply f_ | apply g_); focus first | omega | (simp only [q_] <;> omega)) | ((with_reducible first | apply i_ | apply h_); focus first | omega | (simp only [q_] <;> omega)) | ((with_reducible apply h_); focus first | decide | kernel_rfl) | refine BCase.t (by decide) ?_ | refine BCase.f (by decide) ?_ | (refine SIdx.tx k rfl q ?_) | with_reducible first | apply l_ | apply m_ | apply n_ | apply o_ | refine p_ (fun _ => ?_) (fun _ => ?_)) <;> (conv => whnf)))
      exact ⟨k + 1, by show k + 1 ≤ _; omega, by show s.length - (k + 1) < s.length - k; omega, [], rfl, rfl, ⟨.inl rfl, .inl rfl, PLe.int (by omega), PLe.int (by omega), trivial⟩, trivial⟩
     ·((conv => whnf); repeat' ((first | (with_reducible first | apply a_ | apply b_ | apply c_) | ((with_reducible first | apply d_ | apply e_ | apply f_ | apply g_); focus first | omega | (simp only [q_] <;> omega)) | ((with_reducible first | apply i_ | apply h_); focus first | omega | (simp only [q_] <;> omega)) | ((with_reducible apply h_); focus first | decide | kernel_rfl) | refine BCase.t (by decide) ?_ | refine BCase.f (by decide) ?_ | with_reducible first | apply l_ | apply m_ | apply n_ | apply o_ | refine p_ (fun _ => ?_) (fun _ => ?_)) <;> (conv => whnf)))
      refine Ret.eq ?_
      rw [List.take_of_length_le (by omega)]; rfl
 ·have hf : allB s = false := Bool.eq_false_iff.2 ha
  rw [intO_bad below hf]
  rw [hf] at pa
  ((conv => whnf); repeat' ((first | (with_reducible first | apply a_ | apply b_ | apply c_) | ((with_reducible first | apply d_ | apply e_ | apply f_ | apply g_); focus first | omega | (simp only [q_] <;> omega)) | ((with_reducible first | apply i_ | apply h_); focus first | omega | (simp only [q_] <;> omega)) | ((with_reducible apply h_); focus first | decide | kernel_rfl) | refine BCase.t (by decide) ?_ | refine BCase.f (by decide) ?_ | refine CallP.pure _ rfl _ (pa) ?_ | with_reducible first | apply l_ | apply m_ | apply n_ | apply o_ | refine p_ (fun _ => ?_) (fun _ => ?_)) <;> (conv => whnf)))
  all_goals exact Ret.eq rfl
end Go.Proofs.YtnkkhkpkipckiaaDoor.Pm
end
section
namespace Go.Proofs.YtnkkhkpkipckiaaDoor.Pm
open Go.RowKit K
set_option linter.unusedVariables false
set_option linter.unusedSimpArgs false
set_option maxRecDepth 100000
theorem inner_get {s : List UInt8} {j : Nat} (h : j < (innerL s).length) : s.getD (j + 1) 0 = (innerL s)[j] := by
 have h2 : j + 1 < s.length := by unfold innerL at h; rw [List.length_take, List.length_drop] at h; omega
 have e : (innerL s)[j]? = s[j + 1]? := by
  have h3 : j < s.length - 2 := by unfold innerL at h; rw [List.length_take, List.length_drop] at h; omega
  unfold innerL
  rw [List.getElem?_take, if_pos h3, List.getElem?_drop, Nat.add_comm]
 rw [List.getElem?_eq_getElem h] at e
 rw [List.getD_eq_getElem?_getD, ← e]; rfl
theorem inner_len {s : List UInt8} (h : 2 ≤ s.length) : (innerL s).length = s.length - 2 := by unfold innerL; rw [List.length_take, List.length_drop]; omega
theorem one_tx {s : List UInt8} {k : Nat} (h : k < s.length) : (tx s).extract ((k : Nat) : Int).toNat (((k : Nat) : Int) + 1).toNat = tx [s.getD k 0] := by
 rw [extract_tx]
 have e1 : ((k : Nat) : Int).toNat = k := by omega
 have e2 : (((k : Nat) : Int) + 1).toNat - ((k : Nat) : Int).toNat = 1 := by omega
 rw [e2, e1, List.drop_eq_getElem_cons h, List.getD_eq_getElem?_getD, List.getElem?_eq_getElem h]; rfl
theorem unq_drop_o {m : List UInt8} {j : Nat} (h : j < m.length) (hb : m[j] ≠ 39) : unq (m.drop j) = thenL [m[j]] (unq (m.drop (j + 1))) := by
 rw [List.drop_eq_getElem_cons h, unq_o hb]; rfl
theorem unq_drop_q {m : List UInt8} {j : Nat} (h : j + 1 < m.length) (hb : m[j]'(by omega) = 39) : unq (m.drop j) = if m[j + 1] = 39 then thenL [39] (unq (m.drop (j + 2))) else none := by
 rw [List.drop_eq_getElem_cons (by omega), List.drop_eq_getElem_cons h, hb, unq_q]; rfl
theorem unq_drop_1 {m : List UInt8} {j : Nat} (h : j < m.length) (h1 : ¬ j + 1 < m.length) (hb : m[j] = 39) : unq (m.drop j) = none := by
 rw [List.drop_eq_getElem_cons h, List.drop_of_length_le (by omega), hb]; exact unq_1
theorem thenL_then (a b : List UInt8) (o : Option (List UInt8)) : thenL a (thenL b o) = thenL (a ++ b) o := by
 unfold thenL
 cases o <;> simp
theorem p_quotedref (s : List UInt8) (hs : okText s) : Pure Tryd.prog 42 [pStr (tx s)] (optP (quotL s)) := by
 have hz := tx_size s
 have hs' : s.length ≤ 140737488351232 := hs
 refine pure_of Tryd.func42 (by rfl) rfl (by kernel_rfl) (by rfl) ?_
 unfold quotL
 by_cases h2 : s.length < 2
 ·rw [if_pos (.inl h2)]
  ((conv => whnf); repeat' ((first | (with_reducible first | apply a_ | apply b_ | apply c_) | ((with_reducible first | apply d_ | apply e_ | apply f_ | apply g_); focus first | omega | (simp only [q_] <;> omega)) | ((with_reducible first | apply i_ | apply h_); focus first | omega | (simp only [q_] <;> omega)) | ((with_reducible apply h_); focus first | decide | kernel_rfl) | refine BCase.t (by decide) ?_ | refine BCase.f (by decide) ?_ | with_reducible first | apply l_ | apply m_ | apply n_ | apply o_ | refine p_ (fun _ => ?_) (fun _ => ?_)) <;> (conv => whnf)))
  all_goals exact Ret.eq rfl
 ·have hne : s ≠ [] := fun e => by rw [e] at h2; simp at h2
  have l0 : 0 < s.length := by omega
  have l1 : s.length - 1 < s.length := by omega
  have e1 : (s.length : Int) - 1 = ((s.length - 1 : Nat) : Int) := by omega
  have d39 : ∀ c : UInt8, c = 39 ↔ ((c.toNat : Nat) : Int) = 39 := fun c => ⟨fun e => by rw [e]; rfl, fun e => by rw [← u8_back c, show c.toNat = 39 by omega]; rfl⟩
  by_cases c1 : s.headD 0 = 39
  ·have n1 := c1
   rw [headD_get, d39] at n1
   by_cases c2 : s.getLastD 0 = 39
   ·rw [if_neg (fun h => h.elim h2 fun h => h.elim (fun x => x c1) (fun x => x c2))]
    rw [lastD_get hne, d39] at c2
    have hin := inner_len (s := s) (by omega)
    ((conv => whnf); repeat' ((first | (with_reducible first | apply a_ | apply b_ | apply c_) | ((with_reducible first | apply d_ | apply e_ | apply f_ | apply g_); focus first | omega | (simp only [q_] <;> omega)) | ((with_reducible first | apply i_ | apply h_); focus first | omega | (simp only [q_] <;> omega)) | ((with_reducible apply h_); focus first | decide | kernel_rfl) | refine BCase.t (by decide) ?_ | refine BCase.f (by decide) ?_ | (first | refine SIdx.tx 0 rfl l0 ?_ | refine SIdx.tx (s.length - 1) e1 l1 ?_) | with_reducible first | apply l_ | apply m_ | apply n_ | apply o_ | refine p_ (fun _ => ?_) (fun _ => ?_)) <;> (conv => whnf)))
    refine LoopC.mk (Nat × List UInt8) (fun x => [(0, pStr (tx s)), (4, pInt .i64 s.length), (5, pStr (tx x.2)), (6, pInt .i64 ((x.1 + 1 : Nat) : Int))]) (fun _ => []) [] (fun x => x.1 ≤ (innerL s).length ∧ x.2.length ≤ x.1 ∧ unq (innerL s) = thenL x.2 (unq ((innerL s).drop x.1))) (fun x => (innerL s).length - x.1) (0, []) ⟨Nat.zero_le _, Nat.zero_le _, by show _ = thenL [] (unq ((innerL s).drop 0)); rw [List.drop_zero]; unfold thenL; cases unq (innerL s) <;> rfl⟩ ?start ?round
    case start => exact ⟨[], rfl, rfl, ⟨.inl rfl, .inl rfl, .inl rfl, .inl rfl, trivial⟩, trivial⟩
    case round =>
     rintro ⟨j, t⟩ ⟨hj, ht, hq⟩
     have hj : j ≤ (innerL s).length := hj
     have ht : t.length ≤ j := ht
     have hq : unq (innerL s) = thenL t (unq ((innerL s).drop j)) := hq
     have tz := tx_size t
     by_cases q : j < (innerL s).length
     ·have g0 := inner_get q
      have j1 : j + 1 < s.length := by omega
      by_cases hb : (innerL s)[j] = 39
      ·have n0 := hb
       rw [← g0, d39] at n0
       by_cases q1 : j + 1 < (innerL s).length
       ·have g1 := inner_get q1
        have j2 : j + 1 + 1 < s.length := by omega
        rw [unq_drop_q q1 hb] at hq
        by_cases hc : (innerL s)[j + 1] = 39
        ·have n2 := hc
         rw [← g1, d39] at n2
         rw [if_pos hc, thenL_then] at hq
         have eo := one_tx j2
         rw [g1, hc] at eo
         have eo' : (tx s).extract (((j + 1 : Nat) : Int) + 1).toNat (((j + 1 : Nat) : Int) + 1 + 1).toNat = tx [39] := by
          rw [← eo]
          congr 1 <;> omega
         ((conv => whnf); repeat' ((first | (with_reducible first | apply a_ | apply b_ | apply c_) | ((with_reducible first | apply d_ | apply e_ | apply f_ | apply g_); focus first | omega | (simp only [q_] <;> omega)) | ((with_reducible first | apply i_ | apply h_); focus first | omega | (simp only [q_] <;> omega)) | ((with_reducible apply h_); focus first | decide | kernel_rfl) | refine BCase.t (by decide) ?_ | refine BCase.f (by decide) ?_ | (first | refine SIdx.tx (j + 1) rfl j1 ?_ | refine SIdx.tx (j + 1 + 1) (by omega) j2 ?_) | (refine Need.mk (by rw [eo']; show t.length + 1 ≤ _; omega) ?_) | with_reducible first | apply l_ | apply m_ | apply n_ | apply o_ | refine p_ (fun _ => ?_) (fun _ => ?_)) <;> (conv => whnf)))
         exact ⟨(j + 2, t ++ [39]), ⟨by show j + 2 ≤ _; omega, by show (t ++ [39]).length ≤ j + 2; rw [List.length_append, List.length_singleton]; omega, hq⟩, by show _ - (j + 2) < _ - j; omega, [], rfl, rfl, ⟨.inl rfl, .inl rfl, PLe.c (by rw [eo', tx_append]), PLe.int (by show ((j + 2 + 1 : Nat) : Int) = _; omega), trivial⟩, trivial⟩
        ·have n2 := hc
         rw [← g1, d39] at n2
         rw [if_neg hc] at hq
         have hq : unq (innerL s) = none := hq
         rw [hq]
         ((conv => whnf); repeat' ((first | (with_reducible first | apply a_ | apply b_ | apply c_) | ((with_reducible first | apply d_ | apply e_ | apply f_ | apply g_); focus first | omega | (simp only [q_] <;> omega)) | ((with_reducible first | apply i_ | apply h_); focus first | omega | (simp only [q_] <;> omega)) | ((with_reducible apply h_); focus first | decide | kernel_rfl) | refine BCase.t (by decide) ?_ | refine BCase.f (by decide) ?_ | (first | refine SIdx.tx (j + 1) rfl j1 ?_ | refine SIdx.tx (j + 1 + 1) (by omega) j2 ?_) | with_reducible first | apply l_ | apply m_ | apply n_ | apply o_ | refine p_ (fun _ => ?_) (fun _ => ?_)) <;> (conv => whnf)))
         all_goals exact Ret.eq rfl
       ·rw [unq_drop_1 q q1 hb] at hq
        have hq : unq (innerL s) = none := hq
        rw [hq]
        ((conv => whnf); repeat' ((first | (with_reducible first | apply a_ | apply b_ | apply c_) | ((with_reducible first | apply d_ | apply e_ | apply f_ | apply g_); focus first | omega | (simp only [q_] <;> omega)) | ((with_reducible first | apply i_ | apply h_); focus first | omega | (simp only [q_] <;> omega)) | ((with_reducible apply h_); focus first | decide | kernel_rfl) | refine BCase.t (by decide) ?_ | refine BCase.f (by decide) ?_ | (refine SIdx.tx (j + 1) rfl j1 ?_) | with_reducible first | apply l_ | apply m_ | apply n_ | apply o_ | refine p_ (fun _ => ?_) (fun _ => ?_)) <;> (conv => whnf)))
        all_goals exact Ret.eq rfl
      ·have n0 := hb
       rw [← g0, d39] at n0
       rw [unq_drop_o q hb, thenL_then] at hq
       have eo := one_tx j1
       rw [g0] at eo
       ((conv => whnf); repeat' ((first | (with_reducible first | apply a_ | apply b_ | apply c_) | ((with_reducible first | apply d_ | apply e_ | apply f_ | apply g_); focus first | omega | (simp only [q_] <;> omega)) | ((with_reducible first | apply i_ | apply h_); focus first | omega | (simp only [q_] <;> omega)) | ((with_reducible apply h_); focus first | decide | kernel_rfl) | refine BCase.t (by decide) ?_ | refine BCase.f (by decide) ?_ | (refine SIdx.tx (j + 1) rfl j1 ?_) | (refine Need.mk (by rw [eo]; show t.length + 1 ≤ _; omega) ?_) | with_reducible first | apply l_ | apply m_ | apply n_ | apply o_ | refine p_ (fun _ => ?_) (fun _ => ?_)) <;> (conv => whnf)))
       exact ⟨(j + 1, t ++ [(innerL s)[j]]), ⟨by show j + 1 ≤ _; omega, by show (t ++ [_]).length ≤ j + 1; rw [List.length_append, List.length_singleton]; omega, hq⟩, by show _ - (j + 1) < _ - j; omega, [], rfl, rfl, ⟨.inl rfl, .inl rfl, PLe.c (by rw [eo, tx_append]), PLe.int (by show ((j + 1 + 1 : Nat) : Int) = _; omega), trivial⟩, trivial⟩
     ·rw [List.drop_of_length_le (by omega)] at hq
      have hq : unq (innerL s) = some t := by rw [hq]; show some (t ++ []) = _; rw [List.append_nil]
      rw [hq]
      ((conv => whnf); repeat' ((first | (with_reducible first | apply a_ | apply b_ | apply c_) | ((with_reducible first | apply d_ | apply e_ | apply f_ | apply g_); focus first | omega | (simp only [q_] <;> omega)) | ((with_reducible first | apply i_ | apply h_); focus first | omega | (simp only [q_] <;> omega)) | ((with_reducible apply h_); focus first | decide | kernel_rfl) | refine BCase.t (by decide) ?_ | refine BCase.f (by decide) ?_ | with_reducible first | apply l_ | apply m_ | apply n_ | apply o_ | refine p_ (fun _ => ?_) (fun _ => ?_)) <;> (conv => whnf)))
      exact Ret.eq rfl
   ·rw [if_pos (.inr (.inr c2))]
    rw [lastD_get hne, d39] at c2
    ((conv => whnf); repeat' ((first | (with_reducible first | apply a_ | apply b_ | apply c_) | ((with_reducible first | apply d_ | apply e_ | apply f_ | apply g_); focus first | omega | (simp only [q_] <;> omega)) | ((with_reducible first | apply i_ | apply h_); focus first | omega | (simp only [q_] <;> omega)) | ((with_reducible apply h_); focus first | decide | kernel_rfl) | refine BCase.t (by decide) ?_ | refine BCase.f (by decide) ?_ | (first | refine SIdx.tx 0 rfl l0 ?_ | refine SIdx.tx (s.length - 1) e1 l1 ?_) | with_reducible first | apply l_ | apply m_ | apply n_ | apply o_ | refine p_ (fun _ => ?_) (fun _ => ?_)) <;> (conv => whnf)))
    all_goals exact Ret.eq rfl
  ·rw [if_pos (.inr (.inl c1))]
   rw [headD_get, d39] at c1
   ((conv => whnf); repeat' ((first | (with_reducible first | apply a_ | apply b_ | apply c_) | ((with_reducible first | apply d_ | apply e_ | apply f_ | apply g_); focus first | omega | (simp only [q_] <;> omega)) | ((with_reducible first | apply i_ | apply h_); focus first | omega | (simp only [q_] <;> omega)) | ((with_reducible apply h_); focus first | decide | kernel_rfl) | refine BCase.t (by decide) ?_ | refine BCase.f (by decide) ?_ | (refine SIdx.tx 0 rfl l0 ?_) | with_reducible first | apply l_ | apply m_ | apply n_ | apply o_ | refine p_ (fun _ => ?_) (fun _ => ?_)) <;> (conv => whnf)))
   all_goals exact Ret.eq rfl
theorem p_orderof (x y : ValueD) (hx : okText x.S) (hy : okText y.S) : Pure Tryd.prog 13 [vV x, vV y] (pInt .i64 (vOrd x y)) := by
 have p1 := p_vless x y hx hy
 have p2 := p_vless y x hy hx
 rw [vOrd_swap] at p2
 have hc := vOrd_cases x y
 refine pure_of Tryd.func13 (by rfl) rfl (by kernel_rfl) (by rfl) ?_
 ((conv => whnf); repeat' ((first | (with_reducible first | apply a_ | apply b_ | apply c_) | ((with_reducible first | apply d_ | apply e_ | apply f_ | apply g_); focus first | omega | (simp only [q_] <;> omega)) | ((with_reducible first | apply i_ | apply h_); focus first | omega | (simp only [q_] <;> omega)) | ((with_reducible apply h_); focus first | decide | kernel_rfl) | refine BCase.t (by decide) ?_ | refine BCase.f (by decide) ?_ | refine CallP.pure _ rfl _ (p1) ?_ | refine CallP.pure _ rfl _ (p2) ?_ | with_reducible first | apply l_ | apply m_ | apply n_ | apply o_ | refine p_ (fun _ => ?_) (fun _ => ?_)) <;> (conv => whnf)))
 all_goals exact Ret.int (by omega)
theorem p_hexedref (s : List UInt8) (hs : okText s) : Pure Tryd.prog 43 [pStr (tx s)] (optP (hexR s)) := by
 have hz := tx_size s
 have hs' : s.length ≤ 140737488351232 := hs
 have em : (s.length : Int).tmod 2 = ((s.length % 2 : Nat) : Int) := rfl
 have d39 : ∀ c : UInt8, c = 39 ↔ ((c.toNat : Nat) : Int) = 39 := fun c => ⟨fun e => by rw [e]; rfl, fun e => by rw [← u8_back c, show c.toNat = 39 by omega]; rfl⟩
 have d120 : ∀ c : UInt8, c = 120 ↔ ((c.toNat : Nat) : Int) = 120 := fun c => ⟨fun e => by rw [e]; rfl, fun e => by rw [← u8_back c, show c.toNat = 120 by omega]; rfl⟩
 refine pure_of Tryd.func43 (by rfl) rfl (by kernel_rfl) (by rfl) ?_
 unfold hexR
 by_cases h2 : s.length < 3
 ·rw [if_pos (.inl h2)]
  ((conv => whnf); repeat' ((first | (with_reducible first | apply a_ | apply b_ | apply c_) | ((with_reducible first | apply d_ | apply e_ | apply f_ | apply g_); focus first | omega | (simp only [q_] <;> omega)) | ((with_reducible first | apply i_ | apply h_); focus first | omega | (simp only [q_] <;> omega)) | ((with_reducible apply h_); focus first | decide | kernel_rfl) | refine BCase.t (by decide) ?_ | refine BCase.f (by decide) ?_ | with_reducible first | apply l_ | apply m_ | apply n_ | apply o_ | refine p_ (fun _ => ?_) (fun _ => ?_)) <;> (conv => whnf)))
  all_goals exact Ret.eq rfl
 ·have hne : s ≠ [] := fun e => by rw [e] at h2; simp at h2
  have l0 : 0 < s.length := by omega
  have l1 : s.length - 1 < s.length := by omega
  have l2 : 1 < s.length := by omega
  have e1 : (s.length : Int) - 1 = ((s.length - 1 : Nat) : Int) := by omega
  by_cases c0 : s.length % 2 = 0
  ·rw [if_pos (.inr (.inl c0))]
   ((conv => whnf); repeat' ((first | (with_reducible first | apply a_ | apply b_ | apply c_) | ((with_reducible first | apply d_ | apply e_ | apply f_ | apply g_); focus first | omega | (simp only [q_] <;> omega)) | ((with_reducible first | apply i_ | apply h_); focus first | omega | (simp only [q_] <;> omega)) | ((with_reducible apply h_); focus first | decide | kernel_rfl) | refine BCase.t (by decide) ?_ | refine BCase.f (by decide) ?_ | with_reducible first | apply l_ | apply m_ | apply n_ | apply o_ | refine p_ (fun _ => ?_) (fun _ => ?_)) <;> (conv => whnf)))
   all_goals exact Ret.eq rfl
  ·by_cases c1 : s.headD 0 = 120
   ·have n1 := c1
    rw [headD_get, d120] at n1
    by_cases c2 : s.getD 1 0 = 39
    ·have n2 := c2
     rw [d39] at n2
     by_cases c3 : s.getLastD 0 = 39
     ·rw [if_neg (fun h => h.elim h2 fun h => h.elim c0 fun h => h.elim (fun x => x c1) fun h => h.elim (fun x => x c2) (fun x => x c3))]
      have n3 := c3
      rw [lastD_get hne, d39] at n3
      have hin := inner_len (s := s.drop 1) (by rw [List.length_drop]; omega)
      rw [List.length_drop] at hin
      have hget : ∀ j (h : j < (innerL (s.drop 1)).length), s.getD (j + 2) 0 = (innerL (s.drop 1))[j] := by
       intro j h
       rw [← inner_get h, List.getD_eq_getElem?_getD, List.getD_eq_getElem?_getD, List.getElem?_drop]
       congr 2; omega
      ((conv => whnf); repeat' ((first | (with_reducible first | apply a_ | apply b_ | apply c_) | ((with_reducible first | apply d_ | apply e_ | apply f_ | apply g_); focus first | omega | (simp only [q_] <;> omega)) | ((with_reducible first | apply i_ | apply h_); focus first | omega | (simp only [q_] <;> omega)) | ((with_reducible apply h_); focus first | decide | kernel_rfl) | refine BCase.t (by decide) ?_ | refine BCase.f (by decide) ?_ | (first | refine SIdx.tx 0 rfl l0 ?_ | refine SIdx.tx 1 rfl l2 ?_ | refine SIdx.tx (s.length - 1) e1 l1 ?_) | with_reducible first | apply l_ | apply m_ | apply n_ | apply o_ | refine p_ (fun _ => ?_) (fun _ => ?_)) <;> (conv => whnf)))
      refine LoopC.mk (Nat × List UInt8) (fun x => [(0, pStr (tx s)), (4, pInt .i64 s.length), (5, pStr (tx x.2)), (6, pInt .i64 ((2 * x.1 + 2 : Nat) : Int))]) (fun _ => []) [] (fun x => 2 * x.1 ≤ (innerL (s.drop 1)).length ∧ x.2.length ≤ x.1 ∧ unhex false (innerL (s.drop 1)) = thenL x.2 (unhex false ((innerL (s.drop 1)).drop (2 * x.1)))) (fun x => (innerL (s.drop 1)).length - 2 * x.1) (0, []) ⟨Nat.zero_le _, Nat.zero_le _, by show _ = thenL [] (unhex false ((innerL (s.drop 1)).drop 0)); rw [List.drop_zero]; unfold thenL; cases unhex false (innerL (s.drop 1)) <;> rfl⟩ ?start ?round
      case start => exact ⟨[], rfl, rfl, ⟨.inl rfl, .inl rfl, .inl rfl, .inl rfl, trivial⟩, trivial⟩
      case round =>
       rintro ⟨j, t⟩ ⟨hj, ht, hq⟩
       have hj : 2 * j ≤ (innerL (s.drop 1)).length := hj
       have ht : t.length ≤ j := ht
       have hq : unhex false (innerL (s.drop 1)) = thenL t (unhex false ((innerL (s.drop 1)).drop (2 * j))) := hq
       have tz := tx_size t
       by_cases q : 2 * j < (innerL (s.drop 1)).length
       ·have q1 : 2 * j + 1 < (innerL (s.drop 1)).length := by omega
        have g0 := hget (2 * j) q
        have g1 := hget (2 * j + 1) q1
        have j1 : 2 * j + 2 < s.length := by omega
        have j2 : 2 * j + 1 + 2 < s.length := by omega
        have pa := p_hexof (s.getD (2 * j + 2) 0)
        have pb := p_hexof (s.getD (2 * j + 1 + 2) 0)
        rw [g0] at pa
        rw [g1] at pb
        rw [List.drop_eq_getElem_cons q, List.drop_eq_getElem_cons q1, unhex] at hq
        generalize hca : (innerL (s.drop 1))[2 * j] = a at *
        generalize hcb : (innerL (s.drop 1))[2 * j + 1] = b at *
        have ha := hexI_le a
        have hb := hexI_le b
        have ew : ∀ c, hexw false c = hexv c := fun c => by unfold hexw; rw [if_neg (by simp)]
        rw [ew, ew] at hq
        have pa' : Pure Tryd.prog 58 [pInt .u8 ((s.getD (2 * j + 2) 0).toNat : Int)] (pInt .i64 (hexI a)) := by rw [g0]; exact pa
        have pb' : Pure Tryd.prog 58 [pInt .u8 ((s.getD (2 * j + 1 + 2) 0).toNat : Int)] (pInt .i64 (hexI b)) := by rw [g1]; exact pb
        by_cases na : hexI a < 0
        ·rw [hexI_neg na] at hq
         have hq : unhex false (innerL (s.drop 1)) = none := hq
         rw [hq]
         ((conv => whnf); repeat' ((first | (with_reducible first | apply a_ | apply b_ | apply c_) | ((with_reducible first | apply d_ | apply e_ | apply f_ | apply g_); focus first | omega | (simp only [q_] <;> omega)) | ((with_reducible first | apply i_ | apply h_); focus first | omega | (simp only [q_] <;> omega)) | ((with_reducible apply h_); focus first | decide | kernel_rfl) | refine BCase.t (by decide) ?_ | refine BCase.f (by decide) ?_ | (first | refine SIdx.tx (2 * j + 2) rfl j1 ?_ | refine SIdx.tx (2 * j + 1 + 2) (by omega) j2 ?_) | refine CallP.pure _ rfl _ (pa') ?_ | refine CallP.pure _ rfl _ (pb') ?_ | with_reducible first | apply l_ | apply m_ | apply n_ | apply o_ | refine p_ (fun _ => ?_) (fun _ => ?_)) <;> (conv => whnf)))
         all_goals exact Ret.eq rfl
        ·by_cases nb : hexI b < 0
         ·rw [(hexI_get na).1, hexI_neg nb] at hq
          have hq : unhex false (innerL (s.drop 1)) = none := hq
          rw [hq]
          ((conv => whnf); repeat' ((first | (with_reducible first | apply a_ | apply b_ | apply c_) | ((with_reducible first | apply d_ | apply e_ | apply f_ | apply g_); focus first | omega | (simp only [q_] <;> omega)) | ((with_reducible first | apply i_ | apply h_); focus first | omega | (simp only [q_] <;> omega)) | ((with_reducible apply h_); focus first | decide | kernel_rfl) | refine BCase.t (by decide) ?_ | refine BCase.f (by decide) ?_ | (first | refine SIdx.tx (2 * j + 2) rfl j1 ?_ | refine SIdx.tx (2 * j + 1 + 2) (by omega) j2 ?_) | refine CallP.pure _ rfl _ (pa') ?_ | refine CallP.pure _ rfl _ (pb') ?_ | with_reducible first | apply l_ | apply m_ | apply n_ | apply o_ | refine p_ (fun _ => ?_) (fun _ => ?_)) <;> (conv => whnf)))
          all_goals exact Ret.eq rfl
         ·rw [(hexI_get na).1, (hexI_get nb).1] at hq
          have hq : unhex false (innerL (s.drop 1)) = thenL t (thenL [UInt8.ofNat ((hexI a).toNat * 16 + (hexI b).toNat)] (unhex false ((innerL (s.drop 1)).drop (2 * j + 1 + 1)))) := hq
          rw [thenL_then] at hq
          have eb : by1 (hexI a * 16 + hexI b) = UInt8.ofNat ((hexI a).toNat * 16 + (hexI b).toNat) := by
           rw [← by1_toNat (UInt8.ofNat ((hexI a).toNat * 16 + (hexI b).toNat)), u8_small (by omega)]
           congr 1; omega
          have po := p_onebyteN (hexI a * 16 + hexI b)
          rw [eb] at po
          ((conv => whnf); repeat' ((first | (with_reducible first | apply a_ | apply b_ | apply c_) | ((with_reducible first | apply d_ | apply e_ | apply f_ | apply g_); focus first | omega | (simp only [q_] <;> omega)) | ((with_reducible first | apply i_ | apply h_); focus first | omega | (simp only [q_] <;> omega)) | ((with_reducible apply h_); focus first | decide | kernel_rfl) | refine BCase.t (by decide) ?_ | refine BCase.f (by decide) ?_ | (first | refine SIdx.tx (2 * j + 2) rfl j1 ?_ | refine SIdx.tx (2 * j + 1 + 2) (by omega) j2 ?_) | refine CallP.pure _ rfl _ (pa') ?_ | refine CallP.pure _ rfl _ (pb') ?_ | refine CallP.pure _ rfl _ (po) ?_ | (refine Need.mk (by show t.length + 1 ≤ _; omega) ?_) | with_reducible first | apply l_ | apply m_ | apply n_ | apply o_ | refine p_ (fun _ => ?_) (fun _ => ?_)) <;> (conv => whnf)))
          exact ⟨(j + 1, t ++ [UInt8.ofNat ((hexI a).toNat * 16 + (hexI b).toNat)]), ⟨by show 2 * (j + 1) ≤ _; omega, by show (t ++ [_]).length ≤ j + 1; rw [List.length_append, List.length_singleton]; omega, hq⟩, by show _ - 2 * (j + 1) < _ - 2 * j; omega, [], rfl, rfl, ⟨.inl rfl, .inl rfl, PLe.c (by rw [tx_append]), PLe.int (by show ((2 * (j + 1) + 2 : Nat) : Int) = _; omega), trivial⟩, trivial⟩
       ·rw [List.drop_of_length_le (l := innerL (s.drop 1)) (by omega)] at hq
        have hq : unhex false (innerL (s.drop 1)) = some t := by rw [hq]; show some (t ++ []) = _; rw [List.append_nil]
        rw [hq]
        ((conv => whnf); repeat' ((first | (with_reducible first | apply a_ | apply b_ | apply c_) | ((with_reducible first | apply d_ | apply e_ | apply f_ | apply g_); focus first | omega | (simp only [q_] <;> omega)) | ((with_reducible first | apply i_ | apply h_); focus first | omega | (simp only [q_] <;> omega)) | ((with_reducible apply h_); focus first | decide | kernel_rfl) | refine BCase.t (by decide) ?_ | refine BCase.f (by decide) ?_ | with_reducible first | apply l_ | apply m_ | apply n_ | apply o_ | refine p_ (fun _ => ?_) (fun _ => ?_)) <;> (conv => whnf)))
        exact Ret.eq rfl
     ·rw [if_pos (.inr (.inr (.inr (.inr c3))))]
      rw [lastD_get hne, d39] at c3
      ((conv => whnf); repeat' ((first | (with_reducible first | apply a_ | apply b_ | apply c_) | ((with_reducible first | apply d_ | apply e_ | apply f_ | apply g_); focus first | omega | (simp only [q_] <;> omega)) | ((with_reducible first | apply i_ | apply h_); focus first | omega | (simp only [q_] <;> omega)) | ((with_reducible apply h_); focus first | decide | kernel_rfl) | refine BCase.t (by decide) ?_ | refine BCase.f (by decide) ?_ | (first | refine SIdx.tx 0 rfl l0 ?_ | refine SIdx.tx 1 rfl l2 ?_ | refine SIdx.tx (s.length - 1) e1 l1 ?_) | with_reducible first | apply l_ | apply m_ | apply n_ | apply o_ | refine p_ (fun _ => ?_) (fun _ => ?_)) <;> (conv => whnf)))
      all_goals exact Ret.eq rfl
    ·rw [if_pos (.inr (.inr (.inr (.inl c2))))]
     rw [d39] at c2
     ((conv => whnf); repeat' ((first | (with_reducible first | apply a_ | apply b_ | apply c_) | ((with_reducible first | apply d_ | apply e_ | apply f_ | apply g_); focus first | omega | (simp only [q_] <;> omega)) | ((with_reducible first | apply i_ | apply h_); focus first | omega | (simp only [q_] <;> omega)) | ((with_reducible apply h_); focus first | decide | kernel_rfl) | refine BCase.t (by decide) ?_ | refine BCase.f (by decide) ?_ | (first | refine SIdx.tx 0 rfl l0 ?_ | refine SIdx.tx 1 rfl l2 ?_ | refine SIdx.tx (s.length - 1) e1 l1 ?_) | with_reducible first | apply l_ | apply m_ | apply n_ | apply o_ | refine p_ (fun _ => ?_) (fun _ => ?_)) <;> (conv => whnf)))
     all_goals exact Ret.eq rfl
   ·rw [if_pos (.inr (.inr (.inl c1)))]
    rw [headD_get, d120] at c1
    ((conv => whnf); repeat' ((first | (with_reducible first | apply a_ | apply b_ | apply c_) | ((with_reducible first | apply d_ | apply e_ | apply f_ | apply g_); focus first | omega | (simp only [q_] <;> omega)) | ((with_reducible first | apply i_ | apply h_); focus first | omega | (simp only [q_] <;> omega)) | ((with_reducible apply h_); focus first | decide | kernel_rfl) | refine BCase.t (by decide) ?_ | refine BCase.f (by decide) ?_ | (refine SIdx.tx 0 rfl l0 ?_) | with_reducible first | apply l_ | apply m_ | apply n_ | apply o_ | refine p_ (fun _ => ?_) (fun _ => ?_)) <;> (conv => whnf)))
    all_goals exact Ret.eq rfl
end Go.Proofs.YtnkkhkpkipckiaaDoor.Pm
end
section
namespace Go.Proofs.YtnkkhkpkipckiaaDoor.Pm
open Go.RowKit K
set_option linter.unusedVariables false
set_option linter.unusedSimpArgs false
set_option maxRecDepth 100000
theorem intO_le (s : List UInt8) (b : Bool) : -9223372036854775808 ≤ (intO s b).1 ∧ (intO s b).1 ≤ 9223372036854775807 := by
 unfold intO
 by_cases h1 : allB s = false ∨ (b = true ∧ s = [48])
 ·rw [if_pos h1]; exact ⟨by decide, by decide⟩
 ·rw [if_neg h1]
  by_cases h2 : (if b = true then most2 else most1) < dval s
  ·rw [if_pos h2]; exact ⟨(by decide : (-9223372036854775808 : Int) ≤ 0), (by decide : (0 : Int) ≤ 9223372036854775807)⟩
  ·rw [if_neg h2]
   cases b with
   | true =>
    have h : ¬ 9223372036854775808 < dval s := h2
    show (-9223372036854775808 : Int) ≤ -(dval s : Int) ∧ -(dval s : Int) ≤ 9223372036854775807
    omega
   | false =>
    have h : ¬ 9223372036854775807 < dval s := h2
    show (-9223372036854775808 : Int) ≤ (dval s : Int) ∧ (dval s : Int) ≤ 9223372036854775807
    omega
theorem Wr.eq {k : IntKind} {x y : Int} {K : Int → Prop} (h : x = y) (hw : Wr k y K) : Wr k x K := by rw [h]; exact hw
theorem p_literalof (s : List UInt8) (hs : okText s) : Pure Tryd.prog 20 [pStr (tx s)] (.tup [vV (litV s).1, pInt .i64 (litV s).2]) := by
 have hz := tx_size s
 have hs' : s.length ≤ 140737488351232 := hs
 have pq := p_quotedref s hs
 have ph := p_hexedref s hs
 have en : tx s = ⟨#[78, 85, 76, 76]⟩ ↔ s = nullL := tx_eq (b := nullL)
 have d45 : ∀ c : UInt8, c = 45 ↔ ((c.toNat : Nat) : Int) = 45 := fun c => ⟨fun e => by rw [e]; rfl, fun e => by rw [← u8_back c, show c.toNat = 45 by omega]; rfl⟩
 refine pure_of Tryd.func20 (by rfl) rfl (by kernel_rfl) (by rfl) ?_
 unfold litV
 by_cases h0 : s = nullL
 ·rw [if_pos h0]
  ((conv => whnf); repeat' ((first | (with_reducible first | apply a_ | apply b_ | apply c_) | ((with_reducible first | apply d_ | apply e_ | apply f_ | apply g_); focus first | omega | (simp only [q_] <;> omega)) | ((with_reducible first | apply i_ | apply h_); focus first | omega | (simp only [q_] <;> omega)) | ((with_reducible apply h_); focus first | decide | kernel_rfl) | refine BCase.t (by decide) ?_ | refine BCase.f (by decide) ?_ | (refine BCase.dt (en.2 h0) ?_) | with_reducible first | apply l_ | apply m_ | apply n_ | apply o_ | refine p_ (fun _ => ?_) (fun _ => ?_)) <;> (conv => whnf)))
  exact Ret.eq rfl
 rw [if_neg h0]
 have h0 : ¬ tx s = ⟨#[78, 85, 76, 76]⟩ := fun x => h0 (en.1 x)
 unfold optP at pq ph
 cases ho : quotL s with
 | some t =>
  rw [ho] at pq
  have tz := tx_size t
  unfold txtA
  by_cases hl : 16 < t.length
  ·simp only [hl, if_true]
   ((conv => whnf); repeat' ((first | (with_reducible first | apply a_ | apply b_ | apply c_) | ((with_reducible first | apply d_ | apply e_ | apply f_ | apply g_); focus first | omega | (simp only [q_] <;> omega)) | ((with_reducible first | apply i_ | apply h_); focus first | omega | (simp only [q_] <;> omega)) | ((with_reducible apply h_); focus first | decide | kernel_rfl) | refine BCase.t (by decide) ?_ | refine BCase.f (by decide) ?_ | (refine BCase.df h0 ?_) | refine CallP.pure _ rfl _ (pq) ?_ | with_reducible first | apply l_ | apply m_ | apply n_ | apply o_ | refine p_ (fun _ => ?_) (fun _ => ?_)) <;> (conv => whnf)))
   exact Ret.eq rfl
  ·simp only [hl, if_false]
   ((conv => whnf); repeat' ((first | (with_reducible first | apply a_ | apply b_ | apply c_) | ((with_reducible first | apply d_ | apply e_ | apply f_ | apply g_); focus first | omega | (simp only [q_] <;> omega)) | ((with_reducible first | apply i_ | apply h_); focus first | omega | (simp only [q_] <;> omega)) | ((with_reducible apply h_); focus first | decide | kernel_rfl) | refine BCase.t (by decide) ?_ | refine BCase.f (by decide) ?_ | (refine BCase.df h0 ?_) | refine CallP.pure _ rfl _ (pq) ?_ | with_reducible first | apply l_ | apply m_ | apply n_ | apply o_ | refine p_ (fun _ => ?_) (fun _ => ?_)) <;> (conv => whnf)))
   exact Ret.eq rfl
 | none =>
  rw [ho] at pq
  cases hx : hexR s with
  | some t =>
   rw [hx] at ph
   have tz := tx_size t
   unfold txtA
   by_cases hl : 16 < t.length
   ·simp only [hl, if_true]
    ((conv => whnf); repeat' ((first | (with_reducible first | apply a_ | apply b_ | apply c_) | ((with_reducible first | apply d_ | apply e_ | apply f_ | apply g_); focus first | omega | (simp only [q_] <;> omega)) | ((with_reducible first | apply i_ | apply h_); focus first | omega | (simp only [q_] <;> omega)) | ((with_reducible apply h_); focus first | decide | kernel_rfl) | refine BCase.t (by decide) ?_ | refine BCase.f (by decide) ?_ | (refine BCase.df h0 ?_) | refine CallP.pure _ rfl _ (pq) ?_ | refine CallP.pure _ rfl _ (ph) ?_ | with_reducible first | apply l_ | apply m_ | apply n_ | apply o_ | refine p_ (fun _ => ?_) (fun _ => ?_)) <;> (conv => whnf)))
    exact Ret.eq rfl
   ·simp only [hl, if_false]
    ((conv => whnf); repeat' ((first | (with_reducible first | apply a_ | apply b_ | apply c_) | ((with_reducible first | apply d_ | apply e_ | apply f_ | apply g_); focus first | omega | (simp only [q_] <;> omega)) | ((with_reducible first | apply i_ | apply h_); focus first | omega | (simp only [q_] <;> omega)) | ((with_reducible apply h_); focus first | decide | kernel_rfl) | refine BCase.t (by decide) ?_ | refine BCase.f (by decide) ?_ | (refine BCase.df h0 ?_) | refine CallP.pure _ rfl _ (pq) ?_ | refine CallP.pure _ rfl _ (ph) ?_ | with_reducible first | apply l_ | apply m_ | apply n_ | apply o_ | refine p_ (fun _ => ?_) (fun _ => ?_)) <;> (conv => whnf)))
    exact Ret.eq rfl
  | none =>
   rw [hx] at ph
   unfold intA resA
   by_cases h1 : s.headD 0 = 45
   ·simp only [h1, if_true]
    have l0 : 0 < s.length := by
     cases s with
     | nil => exact absurd h1 (by decide)
     | cons a r => simp
    have n1 := h1
    rw [headD_get, d45] at n1
    have pi := p_intof (s.drop 1) (by unfold okText; rw [List.length_drop]; omega) true
    have hi := intO_le (s.drop 1) true
    have et : (tx s).extract (1 : Int).toNat ((s.length : Nat) : Int).toNat = tx (s.drop 1) := tail_tx s
    have pi' : Pure Tryd.prog 44 [pStr ((tx s).extract (1 : Int).toNat ((s.length : Nat) : Int).toNat), pBool (decide ((((s.getD 0 0).toNat : Nat) : Int) = 45))] (.tup [pInt .i64 (intO (s.drop 1) true).1, pInt .i64 (intO (s.drop 1) true).2]) := by rw [et, decide_eq_true n1]; exact pi
    by_cases he : (intO (s.drop 1) true).2 = 0
    ·simp only [he, not_true_eq_false, ne_eq, if_false]
     ((conv => whnf); repeat' ((first | (with_reducible first | apply a_ | apply b_ | apply c_) | ((with_reducible first | apply d_ | apply e_ | apply f_ | apply g_); focus first | omega | (simp only [q_] <;> omega)) | ((with_reducible first | apply i_ | apply h_); focus first | omega | (simp only [q_] <;> omega)) | ((with_reducible apply h_); focus first | decide | kernel_rfl) | refine BCase.t (by decide) ?_ | refine BCase.f (by decide) ?_ | (refine BCase.df h0 ?_) | refine CallP.pure _ rfl _ (pq) ?_ | refine CallP.pure _ rfl _ (ph) ?_ | refine CallP.pure _ rfl _ (pi') ?_ | (refine SIdx.tx 0 rfl l0 ?_) | with_reducible first | apply l_ | apply m_ | apply n_ | apply o_ | refine p_ (fun _ => ?_) (fun _ => ?_)) <;> (conv => whnf)))
     all_goals exact Ret.eq rfl
    ·simp only [he, not_false_eq_true, ne_eq, if_true]
     ((conv => whnf); repeat' ((first | (with_reducible first | apply a_ | apply b_ | apply c_) | ((with_reducible first | apply d_ | apply e_ | apply f_ | apply g_); focus first | omega | (simp only [q_] <;> omega)) | ((with_reducible first | apply i_ | apply h_); focus first | omega | (simp only [q_] <;> omega)) | ((with_reducible apply h_); focus first | decide | kernel_rfl) | refine BCase.t (by decide) ?_ | refine BCase.f (by decide) ?_ | (refine BCase.df h0 ?_) | refine CallP.pure _ rfl _ (pq) ?_ | refine CallP.pure _ rfl _ (ph) ?_ | refine CallP.pure _ rfl _ (pi') ?_ | (refine SIdx.tx 0 rfl l0 ?_) | with_reducible first | apply l_ | apply m_ | apply n_ | apply o_ | refine p_ (fun _ => ?_) (fun _ => ?_)) <;> (conv => whnf)))
     all_goals exact Ret.eq rfl
   ·simp only [h1, if_false]
    have n1 : 0 < s.length → ¬ (((s.getD 0 0).toNat : Nat) : Int) = 45 := fun _ x => h1 (by rw [headD_get, d45]; exact x)
    have pi := p_intof s hs false
    have hi := intO_le s false
    by_cases l0 : 0 < s.length
    ·have n1 := n1 l0
     have pi2 : Pure Tryd.prog 44 [pStr (tx s), pBool (decide ((((s.getD 0 0).toNat : Nat) : Int) = 45))] (.tup [pInt .i64 (intO s false).1, pInt .i64 (intO s false).2]) := by rw [decide_eq_false n1]; exact pi
     generalize intO s false = r at *
     by_cases he : r.2 = 0
     ·simp only [he, not_true_eq_false, ne_eq, if_false]
      ((conv => whnf); repeat' ((first | (with_reducible first | apply a_ | apply b_ | apply c_) | ((with_reducible first | apply d_ | apply e_ | apply f_ | apply g_); focus first | omega | (simp only [q_] <;> omega)) | ((with_reducible first | apply i_ | apply h_); focus first | omega | (simp only [q_] <;> omega)) | ((with_reducible apply h_); focus first | decide | kernel_rfl) | refine BCase.t (by decide) ?_ | refine BCase.f (by decide) ?_ | (refine BCase.df h0 ?_) | refine CallP.pure _ rfl _ (pq) ?_ | refine CallP.pure _ rfl _ (ph) ?_ | refine CallP.pure _ rfl _ (pi2) ?_ | (refine SIdx.tx 0 rfl l0 ?_) | with_reducible first | apply l_ | apply m_ | apply n_ | apply o_ | refine p_ (fun _ => ?_) (fun _ => ?_)) <;> (conv => whnf)))
      all_goals exact Ret.eq rfl
     ·simp only [he, not_false_eq_true, ne_eq, if_true]
      ((conv => whnf); repeat' ((first | (with_reducible first | apply a_ | apply b_ | apply c_) | ((with_reducible first | apply d_ | apply e_ | apply f_ | apply g_); focus first | omega | (simp only [q_] <;> omega)) | ((with_reducible first | apply i_ | apply h_); focus first | omega | (simp only [q_] <;> omega)) | ((with_reducible apply h_); focus first | decide | kernel_rfl) | refine BCase.t (by decide) ?_ | refine BCase.f (by decide) ?_ | (refine BCase.df h0 ?_) | refine CallP.pure _ rfl _ (pq) ?_ | refine CallP.pure _ rfl _ (ph) ?_ | refine CallP.pure _ rfl _ (pi2) ?_ | (refine SIdx.tx 0 rfl l0 ?_) | with_reducible first | apply l_ | apply m_ | apply n_ | apply o_ | refine p_ (fun _ => ?_) (fun _ => ?_)) <;> (conv => whnf)))
      all_goals exact Ret.eq rfl
    ·by_cases he : (intO s false).2 = 0
     ·simp only [he, not_true_eq_false, ne_eq, if_false]
      ((conv => whnf); repeat' ((first | (with_reducible first | apply a_ | apply b_ | apply c_) | ((with_reducible first | apply d_ | apply e_ | apply f_ | apply g_); focus first | omega | (simp only [q_] <;> omega)) | ((with_reducible first | apply i_ | apply h_); focus first | omega | (simp only [q_] <;> omega)) | ((with_reducible apply h_); focus first | decide | kernel_rfl) | refine BCase.t (by decide) ?_ | refine BCase.f (by decide) ?_ | (refine BCase.df h0 ?_) | refine CallP.pure _ rfl _ (pq) ?_ | refine CallP.pure _ rfl _ (ph) ?_ | refine CallP.pure _ rfl _ (pi) ?_ | with_reducible first | apply l_ | apply m_ | apply n_ | apply o_ | refine p_ (fun _ => ?_) (fun _ => ?_)) <;> (conv => whnf)))
      all_goals exact Ret.eq rfl
     ·simp only [he, not_false_eq_true, ne_eq, if_true]
      ((conv => whnf); repeat' ((first | (with_reducible first | apply a_ | apply b_ | apply c_) | ((with_reducible first | apply d_ | apply e_ | apply f_ | apply g_); focus first | omega | (simp only [q_] <;> omega)) | ((with_reducible first | apply i_ | apply h_); focus first | omega | (simp only [q_] <;> omega)) | ((with_reducible apply h_); focus first | decide | kernel_rfl) | refine BCase.t (by decide) ?_ | refine BCase.f (by decide) ?_ | (refine BCase.df h0 ?_) | refine CallP.pure _ rfl _ (pq) ?_ | refine CallP.pure _ rfl _ (ph) ?_ | refine CallP.pure _ rfl _ (pi) ?_ | with_reducible first | apply l_ | apply m_ | apply n_ | apply o_ | refine p_ (fun _ => ?_) (fun _ => ?_)) <;> (conv => whnf)))
      all_goals exact Ret.eq rfl
theorem p_shownof (v : ValueD) (hc : vChk v = 0) (hi : -9223372036854775808 ≤ v.N ∧ v.N ≤ 9223372036854775807) : Pure Tryd.prog 19 [vV v] (pStr (tx (showV v))) := by
 have pi := p_inttextN v.N hi.1 hi.2
 refine pure_of Tryd.func19 (by rfl) rfl (by kernel_rfl) (by rfl) ?_
 unfold showV
 by_cases k1 : v.Kind = 1
 ·rw [if_pos k1]
  ((conv => whnf); repeat' ((first | (with_reducible first | apply a_ | apply b_ | apply c_) | ((with_reducible first | apply d_ | apply e_ | apply f_ | apply g_); focus first | omega | (simp only [q_] <;> omega)) | ((with_reducible first | apply i_ | apply h_); focus first | omega | (simp only [q_] <;> omega)) | ((with_reducible apply h_); focus first | decide | kernel_rfl) | refine BCase.t (by decide) ?_ | refine BCase.f (by decide) ?_ | refine CallP.pure _ rfl _ (pi) ?_ | with_reducible first | apply l_ | apply m_ | apply n_ | apply o_ | refine p_ (fun _ => ?_) (fun _ => ?_)) <;> (conv => whnf)))
  all_goals first | exact Ret.eq rfl | (exfalso; omega)
 ·rw [if_neg k1]
  obtain ⟨t1, t2, t3, t4, t5⟩ := vChk_text hc k1
  have hz := tx_size v.S
  have d39 : ∀ c : UInt8, c = 39 ↔ ((c.toNat : Nat) : Int) = 39 := fun c => ⟨fun e => by rw [e]; rfl, fun e => by rw [← u8_back c, show c.toNat = 39 by omega]; rfl⟩
  by_cases k2 : v.Kind = 2
  ·rw [if_pos k2]
   ((conv => whnf); repeat' ((first | (with_reducible first | apply a_ | apply b_ | apply c_) | ((with_reducible first | apply d_ | apply e_ | apply f_ | apply g_); focus first | omega | (simp only [q_] <;> omega)) | ((with_reducible first | apply i_ | apply h_); focus first | omega | (simp only [q_] <;> omega)) | ((with_reducible apply h_); focus first | decide | kernel_rfl) | refine BCase.t (by decide) ?_ | refine BCase.f (by decide) ?_ | refine CallP.pure _ rfl _ (pi) ?_ | with_reducible first | apply l_ | apply m_ | apply n_ | apply o_ | refine p_ (fun _ => ?_) (fun _ => ?_)) <;> (conv => whnf)))
   refine LoopC.mk Nat (fun k => [(1, .d (.ptr 1 0)), (3, pStr (tx (39 :: (v.S.take k).flatMap quoB))), (4, pInt .i64 (k : Int))]) (fun _ => [(1, .box 23 (v.c.map D.c))]) [1] (fun k => k ≤ v.S.length) (fun k => v.S.length - k) 0 (Nat.zero_le _) ?start ?round
   case start => exact ⟨[(1, 1)], rfl, rfl, ⟨⟨rfl, rfl, rfl⟩, .inl rfl, .inl rfl, trivial⟩, ⟨rfl, rfl, .inl rfl, .inl rfl, .inl rfl, rfl⟩, trivial⟩
   case round =>
    intro k hk
    have hk : k ≤ v.S.length := hk
    have hfl : ((v.S.take k).flatMap quoB).length ≤ 2 * k := by
     have : ∀ l : List UInt8, (l.flatMap quoB).length ≤ 2 * l.length := by
      intro l
      induction l with
      | nil => exact Nat.zero_le _
      | cons b l ih => rw [List.flatMap_cons, List.length_append, List.length_cons]; have := quoB_le b; omega
     have h1 := this (v.S.take k)
     rw [List.length_take] at h1
     omega
    have tz := tx_size (39 :: (v.S.take k).flatMap quoB)
    rw [List.length_cons] at tz
    by_cases q : k < v.S.length
    ·have eg : v.S.getD k 0 = v.S[k] := by rw [List.getD_eq_getElem?_getD, List.getElem?_eq_getElem q]; rfl
     have es : (v.S.take (k + 1)).flatMap quoB = (v.S.take k).flatMap quoB ++ quoB (v.S.getD k 0) := by
      rw [take_snoc q, List.flatMap_append, eg]; simp
     by_cases hb : v.S.getD k 0 = 39
     ·have nb := (d39 _).1 hb
      rw [hb, show quoB 39 = [39, 39] from rfl] at es
      ((conv => whnf); repeat' ((first | (with_reducible first | apply a_ | apply b_ | apply c_) | ((with_reducible first | apply d_ | apply e_ | apply f_ | apply g_); focus first | omega | (simp only [q_] <;> omega)) | ((with_reducible first | apply i_ | apply h_); focus first | omega | (simp only [q_] <;> omega)) | ((with_reducible apply h_); focus first | decide | kernel_rfl) | refine BCase.t (by decide) ?_ | refine BCase.f (by decide) ?_ | (refine SIdx.tx k rfl q ?_) | (refine Need.mk (by show (tx (39 :: (v.S.take k).flatMap quoB)).size + 2 ≤ _; omega) ?_) | with_reducible first | apply l_ | apply m_ | apply n_ | apply o_ | refine p_ (fun _ => ?_) (fun _ => ?_)) <;> (conv => whnf)))
      exact ⟨k + 1, by show k + 1 ≤ _; omega, by show v.S.length - (k + 1) < v.S.length - k; omega, [(1, 1)], rfl, rfl, ⟨⟨rfl, rfl, rfl⟩, PLe.c (by rw [es, ← List.cons_append, ← tx_append]; rfl), PLe.int (by omega), trivial⟩, ⟨rfl, rfl, .inl rfl, .inl rfl, .inl rfl, rfl⟩, trivial⟩
     ·have nb : ¬ (((v.S.getD k 0).toNat : Nat) : Int) = 39 := fun x => hb ((d39 _).2 x)
      rw [show quoB (v.S.getD k 0) = [v.S.getD k 0] from if_neg hb] at es
      have eo := one_tx q
      ((conv => whnf); repeat' ((first | (with_reducible first | apply a_ | apply b_ | apply c_) | ((with_reducible first | apply d_ | apply e_ | apply f_ | apply g_); focus first | omega | (simp only [q_] <;> omega)) | ((with_reducible first | apply i_ | apply h_); focus first | omega | (simp only [q_] <;> omega)) | ((with_reducible apply h_); focus first | decide | kernel_rfl) | refine BCase.t (by decide) ?_ | refine BCase.f (by decide) ?_ | (refine SIdx.tx k rfl q ?_) | (refine Need.mk (by rw [eo]; show (tx (39 :: (v.S.take k).flatMap quoB)).size + 1 ≤ _; omega) ?_) | with_reducible first | apply l_ | apply m_ | apply n_ | apply o_ | refine p_ (fun _ => ?_) (fun _ => ?_)) <;> (conv => whnf)))
      exact ⟨k + 1, by show k + 1 ≤ _; omega, by show v.S.length - (k + 1) < v.S.length - k; omega, [(1, 1)], rfl, rfl, ⟨⟨rfl, rfl, rfl⟩, PLe.c (by rw [es, eo, ← List.cons_append, ← tx_append]), PLe.int (by omega), trivial⟩, ⟨rfl, rfl, .inl rfl, .inl rfl, .inl rfl, rfl⟩, trivial⟩
    ·((conv => whnf); repeat' ((first | (with_reducible first | apply a_ | apply b_ | apply c_) | ((with_reducible first | apply d_ | apply e_ | apply f_ | apply g_); focus first | omega | (simp only [q_] <;> omega)) | ((with_reducible first | apply i_ | apply h_); focus first | omega | (simp only [q_] <;> omega)) | ((with_reducible apply h_); focus first | decide | kernel_rfl) | refine BCase.t (by decide) ?_ | refine BCase.f (by decide) ?_ | (refine Need.mk (by show (tx (39 :: (v.S.take k).flatMap quoB)).size + 1 ≤ _; omega) ?_) | with_reducible first | apply l_ | apply m_ | apply n_ | apply o_ | refine p_ (fun _ => ?_) (fun _ => ?_)) <;> (conv => whnf)))
     refine Ret.eq ?_
     rw [List.take_of_length_le (by omega)]
     unfold shownL
     rw [← List.cons_append, ← tx_append]; rfl
  ·rw [if_neg k2]
   by_cases k3 : v.Kind = 3
   ·rw [if_pos k3]
    ((conv => whnf); repeat' ((first | (with_reducible first | apply a_ | apply b_ | apply c_) | ((with_reducible first | apply d_ | apply e_ | apply f_ | apply g_); focus first | omega | (simp only [q_] <;> omega)) | ((with_reducible first | apply i_ | apply h_); focus first | omega | (simp only [q_] <;> omega)) | ((with_reducible apply h_); focus first | decide | kernel_rfl) | refine BCase.t (by decide) ?_ | refine BCase.f (by decide) ?_ | refine CallP.pure _ rfl _ (pi) ?_ | with_reducible first | apply l_ | apply m_ | apply n_ | apply o_ | refine p_ (fun _ => ?_) (fun _ => ?_)) <;> (conv => whnf)))
    refine LoopC.mk Nat (fun k => [(1, .d (.ptr 1 0)), (3, pStr (tx (120 :: 39 :: (v.S.take k).flatMap hexB))), (4, pInt .i64 (k : Int))]) (fun _ => [(1, .box 23 (v.c.map D.c))]) [1] (fun k => k ≤ v.S.length) (fun k => v.S.length - k) 0 (Nat.zero_le _) ?start3 ?round3
    case start3 => exact ⟨[(1, 1)], rfl, rfl, ⟨⟨rfl, rfl, rfl⟩, .inl rfl, .inl rfl, trivial⟩, ⟨rfl, rfl, .inl rfl, .inl rfl, .inl rfl, rfl⟩, trivial⟩
    case round3 =>
     intro k hk
     have hk : k ≤ v.S.length := hk
     have hfl := hex_len (v.S.take k)
     rw [List.length_take] at hfl
     have tz := tx_size (120 :: 39 :: (v.S.take k).flatMap hexB)
     rw [List.length_cons, List.length_cons] at tz
     by_cases q : k < v.S.length
     ·have eg : v.S.getD k 0 = v.S[k] := by rw [List.getD_eq_getElem?_getD, List.getElem?_eq_getElem q]; rfl
      have es : (v.S.take (k + 1)).flatMap hexB = (v.S.take k).flatMap hexB ++ hexB (v.S.getD k 0) := by
       rw [take_snoc q, List.flatMap_append, eg]; simp
      have hu := (v.S.getD k 0).toNat_lt
      have p1 := p_hexdigit ((v.S.getD k 0).toNat / 16) (by omega)
      have p2 := p_hexdigit ((v.S.getD k 0).toNat % 16) (by omega)
      have p1' : Pure Tryd.prog 41 [pInt .i64 (((v.S.getD k 0).toNat : Int) / 16)] (pStr (tx [hexd ((v.S.getD k 0).toNat / 16)])) := p1
      have p2' : Pure Tryd.prog 41 [pInt .i64 (((v.S.getD k 0).toNat : Int).tmod 16)] (pStr (tx [hexd ((v.S.getD k 0).toNat % 16)])) := by rw [tmod_nn (by omega)]; exact p2
      ((conv => whnf); repeat' ((first | (with_reducible first | apply a_ | apply b_ | apply c_) | ((with_reducible first | apply d_ | apply e_ | apply f_ | apply g_); focus first | omega | (simp only [q_] <;> omega)) | ((with_reducible first | apply i_ | apply h_); focus first | omega | (simp only [q_] <;> omega)) | ((with_reducible apply h_); focus first | decide | kernel_rfl) | refine BCase.t (by decide) ?_ | refine BCase.f (by decide) ?_ | (refine SIdx.tx k rfl q ?_) | refine CallP.pure _ rfl _ (p1') ?_ | refine CallP.pure _ rfl _ (p2') ?_ | (refine Wr.eq (tdiv_nn (Int.natCast_nonneg _) 16) (Wr.i64 (by omega) (by omega) ?_)) | (first | refine Need.mk (by show (tx (120 :: 39 :: (v.S.take k).flatMap hexB)).size + 2 ≤ _; omega) ?_ | refine Need.mk (by show 1 + 1 ≤ _; omega) ?_) | with_reducible first | apply l_ | apply m_ | apply n_ | apply o_ | refine p_ (fun _ => ?_) (fun _ => ?_)) <;> (conv => whnf)))
      exact ⟨k + 1, by show k + 1 ≤ _; omega, by show v.S.length - (k + 1) < v.S.length - k; omega, [(1, 1)], rfl, rfl, ⟨⟨rfl, rfl, rfl⟩, PLe.c (by rw [es, ← List.cons_append, ← List.cons_append, ← tx_append]; rfl), PLe.int (by omega), trivial⟩, ⟨rfl, rfl, .inl rfl, .inl rfl, .inl rfl, rfl⟩, trivial⟩
     ·((conv => whnf); repeat' ((first | (with_reducible first | apply a_ | apply b_ | apply c_) | ((with_reducible first | apply d_ | apply e_ | apply f_ | apply g_); focus first | omega | (simp only [q_] <;> omega)) | ((with_reducible first | apply i_ | apply h_); focus first | omega | (simp only [q_] <;> omega)) | ((with_reducible apply h_); focus first | decide | kernel_rfl) | refine BCase.t (by decide) ?_ | refine BCase.f (by decide) ?_ | (refine Need.mk (by show (tx (120 :: 39 :: (v.S.take k).flatMap hexB)).size + 1 ≤ _; omega) ?_) | with_reducible first | apply l_ | apply m_ | apply n_ | apply o_ | refine p_ (fun _ => ?_) (fun _ => ?_)) <;> (conv => whnf)))
      refine Ret.eq ?_
      rw [List.take_of_length_le (by omega)]
      unfold shownL
      rw [← List.cons_append, ← List.cons_append, ← tx_append]; rfl
   ·rw [if_neg k3]
    ((conv => whnf); repeat' ((first | (with_reducible first | apply a_ | apply b_ | apply c_) | ((with_reducible first | apply d_ | apply e_ | apply f_ | apply g_); focus first | omega | (simp only [q_] <;> omega)) | ((with_reducible first | apply i_ | apply h_); focus first | omega | (simp only [q_] <;> omega)) | ((with_reducible apply h_); focus first | decide | kernel_rfl) | refine BCase.t (by decide) ?_ | refine BCase.f (by decide) ?_ | refine CallP.pure _ rfl _ (pi) ?_ | with_reducible first | apply l_ | apply m_ | apply n_ | apply o_ | refine p_ (fun _ => ?_) (fun _ => ?_)) <;> (conv => whnf)))
    all_goals first | exact Ret.eq rfl | (exfalso; omega)
end Go.Proofs.YtnkkhkpkipckiaaDoor.Pm
end
section
namespace Go.Proofs.YtnkkhkpkipckiaaDoor.Pm
open Go.RowKit K
set_option linter.unusedVariables false
set_option linter.unusedSimpArgs false
set_option maxRecDepth 100000
instance : DecidableEq ValueD := fun x y => decidable_of_iff (ValueD.eqB x y = true) (ValueD.eqB_iff x y)
def cmpVE (a b : ValueD) : Int := vChkAll [a, b]
def cmpV (a b : ValueD) : Int := if cmpVE a b = 0 then vOrd a b else 0
theorem cmpVE_eq (a b : ValueD) : cmpVE a b = if vChk a ≠ 0 then vChk a else vChk b := by
 unfold cmpVE
 by_cases h1 : vChk a = 0
 ·rw [if_neg (by simp [h1])]
  by_cases h2 : vChk b = 0
  ·rw [h2]; exact vChkAll_ok.2 (by simp [h1, h2])
  ·exact vChkAll_at (l := [a, b]) (k := 1) (by simp) (by simp [h1]) h2
 ·rw [if_pos h1]
  exact vChkAll_at (l := [a, b]) (k := 0) (by simp) (by simp) h1
theorem p_compareV (a b : ValueD) : Pure Tryd.prog 11 [vV a, vV b] (.tup [pInt .i64 (cmpV a b), pInt .i64 (cmpVE a b)]) := by
 have pc := p_checkall [a, b] (by simp)
 have po := p_vorder a b
 refine pure_of Tryd.func11 (by rfl) rfl (by kernel_rfl) (by rfl) ?_
 unfold cmpV cmpVE
 by_cases h : vChkAll [a, b] = 0
 ·rw [if_pos h]
  ((conv => whnf); repeat' ((first | (with_reducible first | apply a_ | apply b_ | apply c_) | ((with_reducible first | apply d_ | apply e_ | apply f_ | apply g_); focus first | omega | (simp only [q_] <;> omega)) | ((with_reducible first | apply i_ | apply h_); focus first | omega | (simp only [q_] <;> omega)) | ((with_reducible apply h_); focus first | decide | kernel_rfl) | refine BCase.t (by decide) ?_ | refine BCase.f (by decide) ?_ | refine CallP.pure _ rfl _ (pc) ?_ | refine CallP.pure _ rfl _ (po) ?_ | with_reducible first | apply l_ | apply m_ | apply n_ | apply o_ | refine p_ (fun _ => ?_) (fun _ => ?_)) <;> (conv => whnf)))
  all_goals first | exact Ret.eq (by rw [h]) | (exfalso; omega)
 ·rw [if_neg h]
  ((conv => whnf); repeat' ((first | (with_reducible first | apply a_ | apply b_ | apply c_) | ((with_reducible first | apply d_ | apply e_ | apply f_ | apply g_); focus first | omega | (simp only [q_] <;> omega)) | ((with_reducible first | apply i_ | apply h_); focus first | omega | (simp only [q_] <;> omega)) | ((with_reducible apply h_); focus first | decide | kernel_rfl) | refine BCase.t (by decide) ?_ | refine BCase.f (by decide) ?_ | refine CallP.pure _ rfl _ (pc) ?_ | refine CallP.pure _ rfl _ (po) ?_ | with_reducible first | apply l_ | apply m_ | apply n_ | apply o_ | refine p_ (fun _ => ?_) (fun _ => ?_)) <;> (conv => whnf)))
  all_goals first | exact Ret.eq rfl | (exfalso; omega)
theorem p_vI (n : Int) : Pure Tryd.prog 30 [pInt .i64 n] (vV ⟨1, n, []⟩) := by
 refine pure_of Tryd.func30 (by rfl) rfl (by kernel_rfl) (by rfl) ?_
 ((conv => whnf); repeat' ((first | (with_reducible first | apply a_ | apply b_ | apply c_) | ((with_reducible first | apply d_ | apply e_ | apply f_ | apply g_); focus first | omega | (simp only [q_] <;> omega)) | ((with_reducible first | apply i_ | apply h_); focus first | omega | (simp only [q_] <;> omega)) | ((with_reducible apply h_); focus first | decide | kernel_rfl) | refine BCase.t (by decide) ?_ | refine BCase.f (by decide) ?_ | with_reducible first | apply l_ | apply m_ | apply n_ | apply o_ | refine p_ (fun _ => ?_) (fun _ => ?_)) <;> (conv => whnf)))
 exact Ret.mk rfl
theorem p_vT (s : List UInt8) : Pure Tryd.prog 28 [pStr (tx s)] (vV ⟨2, 0, s⟩) := by
 refine pure_of Tryd.func28 (by rfl) rfl (by kernel_rfl) (by rfl) ?_
 ((conv => whnf); repeat' ((first | (with_reducible first | apply a_ | apply b_ | apply c_) | ((with_reducible first | apply d_ | apply e_ | apply f_ | apply g_); focus first | omega | (simp only [q_] <;> omega)) | ((with_reducible first | apply i_ | apply h_); focus first | omega | (simp only [q_] <;> omega)) | ((with_reducible apply h_); focus first | decide | kernel_rfl) | refine BCase.t (by decide) ?_ | refine BCase.f (by decide) ?_ | with_reducible first | apply l_ | apply m_ | apply n_ | apply o_ | refine p_ (fun _ => ?_) (fun _ => ?_)) <;> (conv => whnf)))
 exact Ret.mk rfl
theorem p_vB (s : List UInt8) : Pure Tryd.prog 29 [pStr (tx s)] (vV ⟨3, 0, s⟩) := by
 refine pure_of Tryd.func29 (by rfl) rfl (by kernel_rfl) (by rfl) ?_
 ((conv => whnf); repeat' ((first | (with_reducible first | apply a_ | apply b_ | apply c_) | ((with_reducible first | apply d_ | apply e_ | apply f_ | apply g_); focus first | omega | (simp only [q_] <;> omega)) | ((with_reducible first | apply i_ | apply h_); focus first | omega | (simp only [q_] <;> omega)) | ((with_reducible apply h_); focus first | decide | kernel_rfl) | refine BCase.t (by decide) ?_ | refine BCase.f (by decide) ?_ | with_reducible first | apply l_ | apply m_ | apply n_ | apply o_ | refine p_ (fun _ => ?_) (fun _ => ?_)) <;> (conv => whnf)))
 exact Ret.mk rfl
theorem bg_sort : sortR [⟨2, 0, [98]⟩, ⟨1, 3, []⟩, ⟨0, 0, []⟩] = [⟨0, 0, []⟩, ⟨1, 3, []⟩, ⟨2, 0, [98]⟩] := by
 unfold sortR
 rw [if_pos (by decide)]
 refine sortV_uniq (List.isPerm_iff.1 (by decide)) ?_
 unfold leV
 decide +kernel
theorem p_valuebegun : Pure Tryd.prog 14 [] (pBool true) := by
 have q1 := p_Show fmt_goes ⟨2, 0, [105, 116, 39, 115]⟩ (by decide)
 have q2 := p_Show fmt_goes ⟨3, 0, [10, 255]⟩ (by decide)
 have q3 := p_Of [45, 49, 50] (by decide)
 have q4 := p_Of [57, 50, 50, 51, 51, 55, 50, 48, 51, 54, 56, 53, 52, 55, 55, 53, 56, 48, 56] (by decide)
 have q5 := p_compareV ⟨1, 9, []⟩ ⟨2, 0, []⟩
 have q6 := p_Sort [⟨2, 0, [98]⟩, ⟨1, 3, []⟩, ⟨0, 0, []⟩] (by decide)
 have q7 := p_samerow [⟨0, 0, []⟩, ⟨1, 3, []⟩, ⟨2, 0, [98]⟩] [⟨0, 0, []⟩, ⟨1, 3, []⟩, ⟨2, 0, [98]⟩] (by decide)
 have q8 := p_vcheck ⟨4, 0, []⟩
 rw [show vChk ⟨2, 0, [105, 116, 39, 115]⟩ = 0 by decide, if_neg (by decide), show showV ⟨2, 0, [105, 116, 39, 115]⟩ = [39, 105, 116, 39, 39, 115, 39] by decide] at q1
 rw [show vChk ⟨3, 0, [10, 255]⟩ = 0 by decide, if_neg (by decide), show showV ⟨3, 0, [10, 255]⟩ = [120, 39, 48, 97, 102, 102, 39] by decide] at q2
 rw [show ofV [45, 49, 50] = (⟨1, -12, []⟩, 0) by decide +kernel] at q3
 rw [show ofV [57, 50, 50, 51, 51, 55, 50, 48, 51, 54, 56, 53, 52, 55, 55, 53, 56, 48, 56] = (zeroW, 8) by decide +kernel] at q4
 rw [show cmpV ⟨1, 9, []⟩ ⟨2, 0, []⟩ = -1 by decide, show cmpVE ⟨1, 9, []⟩ ⟨2, 0, []⟩ = 0 by decide] at q5
 rw [bg_sort, show sortE [⟨2, 0, [98]⟩, ⟨1, 3, []⟩, ⟨0, 0, []⟩] = 0 by decide] at q6
 rw [show listEqB ValueD.eqB [⟨0, 0, []⟩, ⟨1, 3, []⟩, ⟨2, 0, [98]⟩] [⟨0, 0, []⟩, ⟨1, 3, []⟩, ⟨2, 0, [98]⟩] = true by decide] at q7
 rw [show vChk ⟨4, 0, []⟩ = 7 by decide] at q8
 refine pure_of Tryd.func14 (by rfl) rfl (by kernel_rfl) (by rfl) ?_
 ((conv => whnf); repeat' ((first | (with_reducible first | apply a_ | apply b_ | apply c_) | ((with_reducible first | apply d_ | apply e_ | apply f_ | apply g_); focus first | omega | (simp only [q_] <;> omega)) | ((with_reducible first | apply i_ | apply h_); focus first | omega | (simp only [q_] <;> omega)) | ((with_reducible apply h_); focus first | decide | kernel_rfl) | refine BCase.t (by decide) ?_ | refine BCase.f (by decide) ?_ | refine CallP.pure _ rfl _ (p_vT [105, 116, 39, 115]) ?_ | refine CallP.pure _ rfl _ (p_vT []) ?_ | refine CallP.pure _ rfl _ (p_vT [98]) ?_ | refine CallP.pure _ rfl _ (p_vB [10, 255]) ?_ | refine CallP.pure _ rfl _ (p_vI _) ?_ | refine CallP.pure _ rfl _ (q1) ?_ | refine CallP.pure _ rfl _ (q2) ?_ | refine CallP.pure _ rfl _ (q3) ?_ | refine CallP.pure _ rfl _ (q4) ?_ | refine CallP.pure _ rfl _ (q5) ?_ | refine CallP.pure _ rfl _ (q6) ?_ | refine CallP.pure _ rfl _ (q7) ?_ | refine CallP.pure _ rfl _ (q8) ?_ | with_reducible first | apply l_ | apply m_ | apply n_ | apply o_ | refine p_ (fun _ => ?_) (fun _ => ?_)) <;> (conv => whnf)))
 exact Ret.bool (by decide +kernel)
end Go.Proofs.YtnkkhkpkipckiaaDoor.Pm
end
section
namespace Go.Proofs.YtnkkhkpkipckiaaDoor.Pm
open Go.RowKit K
set_option linter.unusedVariables false
set_option linter.unusedSimpArgs false
set_option maxRecDepth 100000
abbrev okVl (l : List ValueD) : Prop := okSl (Tryd.prog.bytesOf 23) ValueD.ok l
theorem okVl_len {l : List ValueD} (h : okVl l) : l.length ≤ 140737488355328 := by
 have h1 := h.1
 rw [show Tryd.prog.bytesOf 23 = 32 by kernel_rfl] at h1
 omega
theorem law_ValueTells (a : ValueD) (ha : a.ok) (b : ValueD) (hb : b.ok) : Pure Tryd.prog 3 [vV a, vV b] (pBool true) := by
 have p1 := p_compareV a b
 have p2 := p_checkvalues [a, b] (by simp)
 have p3 := p_orderof a b ha.2.2 hb.2.2
 have p4 := p_vcheck a
 have p5 := p_vcheckref a
 refine pure_of Tryd.func3 (by rfl) rfl (by kernel_rfl) (by rfl) ?_
 unfold cmpV cmpVE at p1
 by_cases h : vChkAll [a, b] = 0
 ·rw [if_pos h] at p1
  ((conv => whnf); repeat' ((first | (with_reducible first | apply a_ | apply b_ | apply c_) | ((with_reducible first | apply d_ | apply e_ | apply f_ | apply g_); focus first | omega | (simp only [q_] <;> omega)) | ((with_reducible first | apply i_ | apply h_); focus first | omega | (simp only [q_] <;> omega)) | ((with_reducible apply h_); focus first | decide | kernel_rfl) | refine BCase.t (by decide) ?_ | refine BCase.f (by decide) ?_ | refine CallP.pure _ rfl _ (p_valuebegun) ?_ | refine CallP.pure _ rfl _ (p1) ?_ | refine CallP.pure _ rfl _ (p2) ?_ | refine CallP.pure _ rfl _ (p3) ?_ | refine CallP.pure _ rfl _ (p4) ?_ | refine CallP.pure _ rfl _ (p5) ?_ | with_reducible first | apply l_ | apply m_ | apply n_ | apply o_ | refine p_ (fun _ => ?_) (fun _ => ?_)) <;> (conv => whnf)))
  all_goals first | exact Ret.bool rfl | exact Ret.bool (by simp) | (exfalso; omega)
 ·rw [if_neg h] at p1
  ((conv => whnf); repeat' ((first | (with_reducible first | apply a_ | apply b_ | apply c_) | ((with_reducible first | apply d_ | apply e_ | apply f_ | apply g_); focus first | omega | (simp only [q_] <;> omega)) | ((with_reducible first | apply i_ | apply h_); focus first | omega | (simp only [q_] <;> omega)) | ((with_reducible apply h_); focus first | decide | kernel_rfl) | refine BCase.t (by decide) ?_ | refine BCase.f (by decide) ?_ | refine CallP.pure _ rfl _ (p_valuebegun) ?_ | refine CallP.pure _ rfl _ (p1) ?_ | refine CallP.pure _ rfl _ (p2) ?_ | refine CallP.pure _ rfl _ (p3) ?_ | refine CallP.pure _ rfl _ (p4) ?_ | refine CallP.pure _ rfl _ (p5) ?_ | with_reducible first | apply l_ | apply m_ | apply n_ | apply o_ | refine p_ (fun _ => ?_) (fun _ => ?_)) <;> (conv => whnf)))
  all_goals first | exact Ret.bool rfl | exact Ret.bool (by simp) | (exfalso; omega)
theorem law_ShowTells (v : ValueD) (hv : v.ok) (s : List UInt8) (hs : okText s) : Pure Tryd.prog 5 [vV v, pStr (tx s)] (pBool true) := by
 have p1 := p_Show fmt_goes v hv.2.1
 have p2 := p_Of s hs
 have p3 := p_vcheckref v
 have p5 := p_literalof s hs
 rw [lit_of] at p5
 refine pure_of Tryd.func5 (by rfl) rfl (by kernel_rfl) (by rfl) ?_
 by_cases h : vChk v = 0
 ·have p4 := p_shownof v h hv.2.1
  rw [if_neg (by rw [h]; decide)] at p1
  ((conv => whnf); repeat' ((first | (with_reducible first | apply a_ | apply b_ | apply c_) | ((with_reducible first | apply d_ | apply e_ | apply f_ | apply g_); focus first | omega | (simp only [q_] <;> omega)) | ((with_reducible first | apply i_ | apply h_); focus first | omega | (simp only [q_] <;> omega)) | ((with_reducible apply h_); focus first | decide | kernel_rfl) | refine BCase.t (by decide) ?_ | refine BCase.f (by decide) ?_ | refine CallP.pure _ rfl _ (p_valuebegun) ?_ | refine CallP.pure _ rfl _ (p1) ?_ | refine CallP.pure _ rfl _ (p2) ?_ | refine CallP.pure _ rfl _ (p3) ?_ | refine CallP.pure _ rfl _ (p4) ?_ | refine CallP.pure _ rfl _ (p5) ?_ | with_reducible first | apply l_ | apply m_ | apply n_ | apply o_ | refine p_ (fun _ => ?_) (fun _ => ?_)) <;> (conv => whnf)))
  all_goals first | exact Ret.bool rfl | exact Ret.bool (by simp) | (exfalso; omega)
 ·rw [if_pos h] at p1
  ((conv => whnf); repeat' ((first | (with_reducible first | apply a_ | apply b_ | apply c_) | ((with_reducible first | apply d_ | apply e_ | apply f_ | apply g_); focus first | omega | (simp only [q_] <;> omega)) | ((with_reducible first | apply i_ | apply h_); focus first | omega | (simp only [q_] <;> omega)) | ((with_reducible apply h_); focus first | decide | kernel_rfl) | refine BCase.t (by decide) ?_ | refine BCase.f (by decide) ?_ | refine CallP.pure _ rfl _ (p_valuebegun) ?_ | refine CallP.pure _ rfl _ (p1) ?_ | refine CallP.pure _ rfl _ (p2) ?_ | refine CallP.pure _ rfl _ (p3) ?_ | refine CallP.pure _ rfl _ (p5) ?_ | with_reducible first | apply l_ | apply m_ | apply n_ | apply o_ | refine p_ (fun _ => ?_) (fun _ => ?_)) <;> (conv => whnf)))
  all_goals first | exact Ret.bool rfl | exact Ret.bool (by simp) | (exfalso; omega)
theorem law_ShowBack (v : ValueD) (hv : v.ok) : Pure Tryd.prog 6 [vV v] (pBool true) := by
 have p1 := p_Show fmt_goes v hv.2.1
 have p3 := p_vcheck v
 refine pure_of Tryd.func6 (by rfl) rfl (by kernel_rfl) (by rfl) ?_
 by_cases h : vChk v = 0
 ·rw [if_neg (by rw [h]; decide)] at p1
  have hl : (showV v).length ≤ 140737488351232 := by
   unfold showV
   split
   ·unfold Lib.itoa
    have h1 := hv.2.1
    have hd : ∀ n : Nat, n ≤ 9223372036854775808 → (Lib.decDigits n).length ≤ 20 := by
     intro n hn
     by_cases h0 : n = 0
     ·subst h0; rw [Lib.decDigits, dif_pos (by decide)]; decide
     ·have := digL_len 20 n (by show _ < 100000000000000000000; omega)
      unfold digL at this
      rw [if_neg h0] at this; exact this
    have h1a : -9223372036854775808 ≤ v.N := h1.1
    have h1b : v.N ≤ 9223372036854775807 := h1.2
    split
    ·have := hd v.N.natAbs (by omega)
     rw [List.length_cons]; omega
    ·have := hd v.N.toNat (by omega)
     omega
   ·rename_i k1
    obtain ⟨t1, t2, t3, t4, t5⟩ := vChk_text h k1
    split
    ·unfold shownL
     have : ∀ l : List UInt8, (l.flatMap quoB).length ≤ 2 * l.length := by
      intro l
      induction l with
      | nil => exact Nat.zero_le _
      | cons b l ih => rw [List.flatMap_cons, List.length_append, List.length_cons]; have := quoB_le b; omega
     have := this v.S
     rw [List.length_cons, List.length_append, List.length_singleton]; omega
    ·split
     ·unfold shownL
      rw [List.length_cons, List.length_cons, List.length_append, List.length_singleton, hex_len]; omega
     ·decide
  have p2 := p_Of (showV v) hl
  rw [of_show h hv.2.1] at p2
  ((conv => whnf); repeat' ((first | (with_reducible first | apply a_ | apply b_ | apply c_) | ((with_reducible first | apply d_ | apply e_ | apply f_ | apply g_); focus first | omega | (simp only [q_] <;> omega)) | ((with_reducible first | apply i_ | apply h_); focus first | omega | (simp only [q_] <;> omega)) | ((with_reducible apply h_); focus first | decide | kernel_rfl) | refine BCase.t (by decide) ?_ | refine BCase.f (by decide) ?_ | refine CallP.pure _ rfl _ (p_valuebegun) ?_ | refine CallP.pure _ rfl _ (p1) ?_ | refine CallP.pure _ rfl _ (p2) ?_ | refine CallP.pure _ rfl _ (p3) ?_ | with_reducible first | apply l_ | apply m_ | apply n_ | apply o_ | refine p_ (fun _ => ?_) (fun _ => ?_)) <;> (conv => whnf)))
  all_goals first | exact Ret.bool rfl | exact Ret.bool (by simp) | (exfalso; omega)
 ·rw [if_pos h] at p1
  ((conv => whnf); repeat' ((first | (with_reducible first | apply a_ | apply b_ | apply c_) | ((with_reducible first | apply d_ | apply e_ | apply f_ | apply g_); focus first | omega | (simp only [q_] <;> omega)) | ((with_reducible first | apply i_ | apply h_); focus first | omega | (simp only [q_] <;> omega)) | ((with_reducible apply h_); focus first | decide | kernel_rfl) | refine BCase.t (by decide) ?_ | refine BCase.f (by decide) ?_ | refine CallP.pure _ rfl _ (p_valuebegun) ?_ | refine CallP.pure _ rfl _ (p1) ?_ | refine CallP.pure _ rfl _ (p3) ?_ | with_reducible first | apply l_ | apply m_ | apply n_ | apply o_ | refine p_ (fun _ => ?_) (fun _ => ?_)) <;> (conv => whnf)))
  all_goals first | exact Ret.bool rfl | exact Ret.bool (by simp; done) | (exfalso; omega)
theorem txtA_facts (k : Int) (o : Option (List UInt8)) : (txtA k o).1.N = 0 ∧ ((txtA k o).2 ≠ 0 → (txtA k o).1 = zeroW) := by
 unfold txtA
 split
 ·exact ⟨rfl, fun _ => rfl⟩
 ·split
  ·exact ⟨rfl, fun _ => rfl⟩
  ·exact ⟨rfl, fun h => absurd rfl h⟩
theorem ofV_facts (s : List UInt8) : (-9223372036854775808 ≤ (ofV s).1.N ∧ (ofV s).1.N ≤ 9223372036854775807) ∧ ((ofV s).2 ≠ 0 → (ofV s).1 = zeroW) := by
 unfold ofV
 split
 ·exact ⟨⟨by decide, by decide⟩, fun _ => rfl⟩
 ·split
  ·have := txtA_facts 3 (hexL false (s.drop 1))
   rw [this.1]
   exact ⟨⟨by decide, by decide⟩, this.2⟩
  ·split
   ·have := txtA_facts 2 (quotL s)
    rw [this.1]
    exact ⟨⟨by decide, by decide⟩, this.2⟩
   ·rw [numA_N]
    have := numN_le s
    split
    ·exact ⟨⟨(by decide : (-9223372036854775808 : Int) ≤ 0), (by decide : (0 : Int) ≤ 9223372036854775807)⟩, fun _ => rfl⟩
    ·exact ⟨this, fun h => absurd rfl h⟩
theorem law_ShowOnly (s : List UInt8) (hs : okText s) : Pure Tryd.prog 7 [pStr (tx s)] (pBool true) := by
 have p2 := p_Of s hs
 refine pure_of Tryd.func7 (by rfl) rfl (by kernel_rfl) (by rfl) ?_
 by_cases h : (ofV s).2 = 0
 ·obtain ⟨e1, e2⟩ := show_of (s := s) (v := (ofV s).1) (by rw [← h])
  have hN := (ofV_facts s).1
  have p1 := p_Show fmt_goes (ofV s).1 hN
  have p3 := p_vcheck (ofV s).1
  rw [e2] at p3
  rw [if_neg (by rw [e2]; decide), e1, e2] at p1
  ((conv => whnf); repeat' ((first | (with_reducible first | apply a_ | apply b_ | apply c_) | ((with_reducible first | apply d_ | apply e_ | apply f_ | apply g_); focus first | omega | (simp only [q_] <;> omega)) | ((with_reducible first | apply i_ | apply h_); focus first | omega | (simp only [q_] <;> omega)) | ((with_reducible apply h_); focus first | decide | kernel_rfl) | refine BCase.t (by decide) ?_ | refine BCase.f (by decide) ?_ | refine CallP.pure _ rfl _ (p_valuebegun) ?_ | refine CallP.pure _ rfl _ (p1) ?_ | refine CallP.pure _ rfl _ (p2) ?_ | refine CallP.pure _ rfl _ (p3) ?_ | with_reducible first | apply l_ | apply m_ | apply n_ | apply o_ | refine p_ (fun _ => ?_) (fun _ => ?_)) <;> (conv => whnf)))
  all_goals first | exact Ret.bool rfl | exact Ret.bool (by simp; done) | (exfalso; omega)
 ·have hz := (ofV_facts s).2 h
  rw [hz] at p2
  ((conv => whnf); repeat' ((first | (with_reducible first | apply a_ | apply b_ | apply c_) | ((with_reducible first | apply d_ | apply e_ | apply f_ | apply g_); focus first | omega | (simp only [q_] <;> omega)) | ((with_reducible first | apply i_ | apply h_); focus first | omega | (simp only [q_] <;> omega)) | ((with_reducible apply h_); focus first | decide | kernel_rfl) | refine BCase.t (by decide) ?_ | refine BCase.f (by decide) ?_ | refine CallP.pure _ rfl _ (p_valuebegun) ?_ | refine CallP.pure _ rfl _ (p2) ?_ | with_reducible first | apply l_ | apply m_ | apply n_ | apply o_ | refine p_ (fun _ => ?_) (fun _ => ?_)) <;> (conv => whnf)))
  all_goals first | exact Ret.bool rfl | exact Ret.bool (by decide +kernel) | (exfalso; omega)
theorem law_SortTells (l : List ValueD) (hl : okVl l) : Pure Tryd.prog 8 [slV 3 ValueD.c l] (pBool true) := by
 have h1 := okVl_len hl
 have p1 := p_Sort l h1
 have p2 := p_checkvalues l h1
 refine pure_of Tryd.func8 (by rfl) rfl (by kernel_rfl) (by rfl) ?_
 by_cases h40 : 40 < l.length
 ·have e : sortE l = 2 := if_pos h40
  have r : sortR l = [] := by unfold sortR; rw [e, if_neg (by decide)]
  rw [e, r] at p1
  have p3 := p_samerow [] [] (by simp)
  have p3 := p3.le (args' := [slV 3 ValueD.c [], .d (.c (.v (.slice none 0 0)))]) ⟨.inl rfl, .inr ⟨⟨3, rfl⟩, .inl rfl⟩, rfl⟩
  ((conv => whnf); repeat' ((first | (with_reducible first | apply a_ | apply b_ | apply c_) | ((with_reducible first | apply d_ | apply e_ | apply f_ | apply g_); focus first | omega | (simp only [q_] <;> omega)) | ((with_reducible first | apply i_ | apply h_); focus first | omega | (simp only [q_] <;> omega)) | ((with_reducible apply h_); focus first | decide | kernel_rfl) | refine BCase.t (by decide) ?_ | refine BCase.f (by decide) ?_ | refine CallP.pure _ rfl _ (p_valuebegun) ?_ | refine CallP.pure _ rfl _ (p1) ?_ | refine CallP.pure _ rfl _ (p2) ?_ | refine CallP.pure _ rfl _ (p3) ?_ | with_reducible first | apply l_ | apply m_ | apply n_ | apply o_ | refine p_ (fun _ => ?_) (fun _ => ?_)) <;> (conv => whnf)))
  all_goals first | exact Ret.bool rfl | exact Ret.bool (by simp; done) | (exfalso; omega)
 ·have e : sortE l = vChkAll l := if_neg h40
  by_cases hc : vChkAll l = 0
  ·have r : sortR l = sortV l := by unfold sortR; rw [e, if_pos hc]
   rw [e, r] at p1
   have p4 := p_sortedof l (by omega) (fun v hv => (hl.2 v hv).2.2)
   have p3 := p_samerow (sortV l) (sortV l) (by rw [sortV_len]; exact h1)
   rw [(listEqB_iff ValueD.eqB_iff _ _).2 rfl] at p3
   ((conv => whnf); repeat' ((first | (with_reducible first | apply a_ | apply b_ | apply c_) | ((with_reducible first | apply d_ | apply e_ | apply f_ | apply g_); focus first | omega | (simp only [q_] <;> omega)) | ((with_reducible first | apply i_ | apply h_); focus first | omega | (simp only [q_] <;> omega)) | ((with_reducible apply h_); focus first | decide | kernel_rfl) | refine BCase.t (by decide) ?_ | refine BCase.f (by decide) ?_ | refine CallP.pure _ rfl _ (p_valuebegun) ?_ | refine CallP.pure _ rfl _ (p1) ?_ | refine CallP.pure _ rfl _ (p2) ?_ | refine CallP.pure _ rfl _ (p3) ?_ | refine CallP.pure _ rfl _ (p4) ?_ | with_reducible first | apply l_ | apply m_ | apply n_ | apply o_ | refine p_ (fun _ => ?_) (fun _ => ?_)) <;> (conv => whnf)))
   all_goals first | exact Ret.bool rfl | exact Ret.bool (by simp; done) | (exfalso; omega)
  ·have r : sortR l = [] := by unfold sortR; rw [e, if_neg hc]
   rw [e, r] at p1
   have p3 := p_samerow [] [] (by simp)
   have p3 := p3.le (args' := [slV 3 ValueD.c [], .d (.c (.v (.slice none 0 0)))]) ⟨.inl rfl, .inr ⟨⟨3, rfl⟩, .inl rfl⟩, rfl⟩
   ((conv => whnf); repeat' ((first | (with_reducible first | apply a_ | apply b_ | apply c_) | ((with_reducible first | apply d_ | apply e_ | apply f_ | apply g_); focus first | omega | (simp only [q_] <;> omega)) | ((with_reducible first | apply i_ | apply h_); focus first | omega | (simp only [q_] <;> omega)) | ((with_reducible apply h_); focus first | decide | kernel_rfl) | refine BCase.t (by decide) ?_ | refine BCase.f (by decide) ?_ | refine CallP.pure _ rfl _ (p_valuebegun) ?_ | refine CallP.pure _ rfl _ (p1) ?_ | refine CallP.pure _ rfl _ (p2) ?_ | refine CallP.pure _ rfl _ (p3) ?_ | with_reducible first | apply l_ | apply m_ | apply n_ | apply o_ | refine p_ (fun _ => ?_) (fun _ => ?_)) <;> (conv => whnf)))
   all_goals first | exact Ret.bool rfl | exact Ret.bool (by simp; done) | (exfalso; omega)
theorem sortR_ok {l : List ValueD} (h : sortE l = 0) : sortR l = sortV l ∧ l.length ≤ 40 ∧ ∀ v ∈ l, vChk v = 0 := by
 refine ⟨if_pos h, ?_⟩
 unfold sortE at h
 split at h
 ·cases h
 ·exact ⟨by omega, vChkAll_ok.1 h⟩
theorem sortE_ok {l : List ValueD} (h : l.length ≤ 40) (hv : ∀ v ∈ l, vChk v = 0) : sortE l = 0 := by
 unfold sortE
 rw [if_neg (by omega), vChkAll_ok.2 hv]
theorem law_SortMoves (l : List ValueD) (hl : okVl l) (v : ValueD) (hv : v.ok) : Pure Tryd.prog 9 [slV 3 ValueD.c l, vV v] (pBool true) := by
 have h1 := okVl_len hl
 have p1 := p_Sort l h1
 refine pure_of Tryd.func9 (by rfl) rfl (by kernel_rfl) (by rfl) ?_
 by_cases h : sortE l = 0
 ·obtain ⟨r, h40, hc⟩ := sortR_ok h
  rw [h, r] at p1
  have hsl := sortV_len l
  have p2 := p_many l v h1
  have p3 := p_many (sortV l) v (by rw [hsl]; exact h1)
  have em : manyV (sortV l) v = manyV l v := (sortV_perm l).countP_eq _
  rw [em] at p3
  have hs := sortV_sorted l
  have hcs : ∀ x ∈ sortV l, vChk x = 0 := fun x hx => hc x ((sortV_perm l).subset hx)
  ((conv => whnf); repeat' ((first | (with_reducible first | apply a_ | apply b_ | apply c_) | ((with_reducible first | apply d_ | apply e_ | apply f_ | apply g_); focus first | omega | (simp only [q_] <;> omega)) | ((with_reducible first | apply i_ | apply h_); focus first | omega | (simp only [q_] <;> omega)) | ((with_reducible apply h_); focus first | decide | kernel_rfl) | refine BCase.t (by decide) ?_ | refine BCase.f (by decide) ?_ | refine CallP.pure _ rfl _ (p_valuebegun) ?_ | refine CallP.pure _ rfl _ (p1) ?_ | with_reducible first | apply l_ | apply m_ | apply n_ | apply o_ | refine p_ (fun _ => ?_) (fun _ => ?_)) <;> (conv => whnf)))
  refine LoopC.mk Nat (fun k => [(0, slV 3 ValueD.c l), (3, .d (.ptr 3 0)), (5, slV 3 ValueD.c (sortV l)), (7, pInt .i64 (k : Int))]) (fun _ => [(3, .box 23 (v.c.map D.c))]) [3] (fun k => 1 ≤ k ∧ (k = 1 ∨ k ≤ l.length)) (fun k => l.length - k) 1 ⟨Nat.le_refl _, .inl rfl⟩ ?start ?round
  case start => exact ⟨[(3, 3)], rfl, rfl, ⟨.inl rfl, ⟨rfl, rfl, rfl⟩, .inl rfl, .inl rfl, trivial⟩, ⟨rfl, rfl, .inl rfl, .inl rfl, .inl rfl, rfl⟩, trivial⟩
  case round =>
   rintro k ⟨hk1, hk⟩
   have hk1 : 1 ≤ k := hk1
   have hk : k = 1 ∨ k ≤ l.length := hk
   by_cases q : k < (sortV l).length
   ·have q0 : k - 1 < (sortV l).length := by omega
    have pc := p_compareV (sortV l)[k - 1] (sortV l)[k]
    have hle : vOrd (sortV l)[k - 1] (sortV l)[k] ≤ 0 := (List.pairwise_iff_getElem.1 hs) (k - 1) k q0 q (by omega)
    have he : cmpVE (sortV l)[k - 1] (sortV l)[k] = 0 := by
     rw [cmpVE_eq, if_neg (by simp [hcs _ (List.getElem_mem q0)])]
     exact hcs _ (List.getElem_mem q)
    rw [show cmpV (sortV l)[k - 1] (sortV l)[k] = vOrd (sortV l)[k - 1] (sortV l)[k] from if_pos he, he] at pc
    have hik : (k : Int) - 1 = ((k - 1 : Nat) : Int) := by omega
    ((conv => whnf); repeat' ((first | (with_reducible first | apply a_ | apply b_ | apply c_) | ((with_reducible first | apply d_ | apply e_ | apply f_ | apply g_); focus first | omega | (simp only [q_] <;> omega)) | ((with_reducible first | apply i_ | apply h_); focus first | omega | (simp only [q_] <;> omega)) | ((with_reducible apply h_); focus first | decide | kernel_rfl) | refine BCase.t (by decide) ?_ | refine BCase.f (by decide) ?_ | (first | refine Idx.mapI k rfl q ?_ | refine Idx.mapI (k - 1) hik q0 ?_) | refine CallP.pure _ rfl _ (pc) ?_ | with_reducible first | apply l_ | apply m_ | apply n_ | apply o_ | refine p_ (fun _ => ?_) (fun _ => ?_)) <;> (conv => whnf)))
    exact ⟨k + 1, ⟨by omega, by omega⟩, by omega, [(3, 3)], rfl, rfl, ⟨.inl rfl, ⟨rfl, rfl, rfl⟩, .inl rfl, PLe.int (by omega), trivial⟩, ⟨rfl, rfl, .inl rfl, .inl rfl, .inl rfl, rfl⟩, trivial⟩
   ·((conv => whnf); repeat' ((first | (with_reducible first | apply a_ | apply b_ | apply c_) | ((with_reducible first | apply d_ | apply e_ | apply f_ | apply g_); focus first | omega | (simp only [q_] <;> omega)) | ((with_reducible first | apply i_ | apply h_); focus first | omega | (simp only [q_] <;> omega)) | ((with_reducible apply h_); focus first | decide | kernel_rfl) | refine BCase.t (by decide) ?_ | refine BCase.f (by decide) ?_ | refine CallP.pure _ rfl _ (p2) ?_ | refine CallP.pure _ rfl _ (p3) ?_ | with_reducible first | apply l_ | apply m_ | apply n_ | apply o_ | refine p_ (fun _ => ?_) (fun _ => ?_)) <;> (conv => whnf)))
    all_goals first | exact Ret.bool rfl | exact Ret.bool (by simp; done) | (exfalso; omega)
 ·have r : sortR l = [] := if_neg h
  rw [r] at p1
  ((conv => whnf); repeat' ((first | (with_reducible first | apply a_ | apply b_ | apply c_) | ((with_reducible first | apply d_ | apply e_ | apply f_ | apply g_); focus first | omega | (simp only [q_] <;> omega)) | ((with_reducible first | apply i_ | apply h_); focus first | omega | (simp only [q_] <;> omega)) | ((with_reducible apply h_); focus first | decide | kernel_rfl) | refine BCase.t (by decide) ?_ | refine BCase.f (by decide) ?_ | refine CallP.pure _ rfl _ (p_valuebegun) ?_ | refine CallP.pure _ rfl _ (p1) ?_ | with_reducible first | apply l_ | apply m_ | apply n_ | apply o_ | refine p_ (fun _ => ?_) (fun _ => ?_)) <;> (conv => whnf)))
  all_goals first | exact Ret.bool rfl | exact Ret.bool (by simp; done) | (exfalso; omega)
theorem law_ValueOrder (a : ValueD) (ha : a.ok) (b : ValueD) (hb : b.ok) (c : ValueD) (hc : c.ok) : Pure Tryd.prog 4 [vV a, vV b, vV c] (pBool true) := by
 have p1 := p_compareV a b
 have p2 := p_compareV b c
 have p3 := p_compareV a c
 have p4 := p_compareV b a
 have e1 := cmpVE_eq a b
 have e2 := cmpVE_eq b c
 have e3 := cmpVE_eq a c
 have e4 := cmpVE_eq b a
 refine pure_of Tryd.func4 (by rfl) rfl (by kernel_rfl) (by rfl) ?_
 by_cases h1 : cmpVE a b = 0
 ·by_cases h2 : cmpVE b c = 0
  ·have ca : vChk a = 0 := by
    rw [e1] at h1
    split at h1
    ·rename_i q; exact absurd h1 q
    ·rename_i q; exact Decidable.of_not_not q
   have cb : vChk b = 0 := by rw [e1, if_neg (by simp [ca])] at h1; exact h1
   have cc : vChk c = 0 := by rw [e2, if_neg (by simp [cb])] at h2; exact h2
   have h3 : cmpVE a c = 0 := by rw [e3, if_neg (by simp [ca])]; exact cc
   have h4 : cmpVE b a = 0 := by rw [e4, if_neg (by simp [cb])]; exact ca
   rw [show cmpV a b = vOrd a b from if_pos h1, h1] at p1
   rw [show cmpV b c = vOrd b c from if_pos h2, h2] at p2
   rw [show cmpV a c = vOrd a c from if_pos h3, h3] at p3
   rw [show cmpV b a = - vOrd a b from (if_pos h4).trans (vOrd_swap a b), h4] at p4
   have k1 := vOrd_cases a b
   have k2 := vOrd_cases b c
   have k3 := vOrd_cases a c
   have k4 : vOrd a b ≤ 0 → vOrd b c ≤ 0 → vOrd a c ≤ 0 := vOrd_trans
   have k5 : vOrd a b = 0 ↔ ValueD.eqB a b = true := by rw [vOrd_zero, ValueD.eqB_iff]
   have k6 : vOrd a c = 0 → vOrd b c = - vOrd a b := fun h => by
    have := (vOrd_zero a c).1 h
    subst this
    exact vOrd_swap a b
   have k7 : vOrd a b = 0 → vOrd a c = vOrd b c := fun h => by
    have := (vOrd_zero a b).1 h
    subst this; rfl
   clear e1 e2 e3 e4 h1 h2 h3 h4
   generalize vOrd a b = x at *
   generalize vOrd b c = y at *
   generalize vOrd a c = z at *
   have hz : (decide (x = 0) == ValueD.eqB a b) = true := by
    by_cases hx : x = 0
    ·rw [k5.1 hx, decide_eq_true hx]; rfl
    ·rw [Bool.eq_false_iff.2 fun h => hx (k5.2 h), decide_eq_false hx]; rfl
   ((conv => whnf); repeat' ((first | (with_reducible first | apply a_ | apply b_ | apply c_) | ((with_reducible first | apply d_ | apply e_ | apply f_ | apply g_); focus first | omega | (simp only [q_] <;> omega)) | ((with_reducible first | apply i_ | apply h_); focus first | omega | (simp only [q_] <;> omega)) | ((with_reducible apply h_); focus first | decide | kernel_rfl) | refine BCase.t (by decide) ?_ | refine BCase.f (by decide) ?_ | refine CallP.pure _ rfl _ (p_valuebegun) ?_ | refine CallP.pure _ rfl _ (p1) ?_ | refine CallP.pure _ rfl _ (p2) ?_ | refine CallP.pure _ rfl _ (p3) ?_ | refine CallP.pure _ rfl _ (p4) ?_ | (refine BCase.t hz ?_) | with_reducible first | apply l_ | apply m_ | apply n_ | apply o_ | refine p_ (fun _ => ?_) (fun _ => ?_)) <;> (conv => whnf)))
   all_goals first
    | exact Ret.bool rfl
    | (exfalso; omega)
    | (refine Ret.bool ?_; simp; omega)
    | (refine Ret.bool ?_; rw [beq_iff_eq]; (first | (rw [decide_eq_decide]; omega) | skip))
  ·rw [show cmpV b c = 0 from if_neg h2] at p2
   have b1 : cmpVE a b ≠ 0 → cmpV a b = 0 := fun h => if_neg h
   ((conv => whnf); repeat' ((first | (with_reducible first | apply a_ | apply b_ | apply c_) | ((with_reducible first | apply d_ | apply e_ | apply f_ | apply g_); focus first | omega | (simp only [q_] <;> omega)) | ((with_reducible first | apply i_ | apply h_); focus first | omega | (simp only [q_] <;> omega)) | ((with_reducible apply h_); focus first | decide | kernel_rfl) | refine BCase.t (by decide) ?_ | refine BCase.f (by decide) ?_ | refine CallP.pure _ rfl _ (p_valuebegun) ?_ | refine CallP.pure _ rfl _ (p1) ?_ | refine CallP.pure _ rfl _ (p2) ?_ | refine CallP.pure _ rfl _ (p3) ?_ | refine CallP.pure _ rfl _ (p4) ?_ | with_reducible first | apply l_ | apply m_ | apply n_ | apply o_ | refine p_ (fun _ => ?_) (fun _ => ?_)) <;> (conv => whnf)))
   all_goals first
    | exact Ret.bool rfl
    | (exfalso; omega)
    | (refine Ret.bool ?_; simp; omega)
 ·rw [show cmpV a b = 0 from if_neg h1] at p1
  have b1 : cmpVE b c ≠ 0 → cmpV b c = 0 := fun h => if_neg h
  ((conv => whnf); repeat' ((first | (with_reducible first | apply a_ | apply b_ | apply c_) | ((with_reducible first | apply d_ | apply e_ | apply f_ | apply g_); focus first | omega | (simp only [q_] <;> omega)) | ((with_reducible first | apply i_ | apply h_); focus first | omega | (simp only [q_] <;> omega)) | ((with_reducible apply h_); focus first | decide | kernel_rfl) | refine BCase.t (by decide) ?_ | refine BCase.f (by decide) ?_ | refine CallP.pure _ rfl _ (p_valuebegun) ?_ | refine CallP.pure _ rfl _ (p1) ?_ | refine CallP.pure _ rfl _ (p2) ?_ | refine CallP.pure _ rfl _ (p3) ?_ | refine CallP.pure _ rfl _ (p4) ?_ | with_reducible first | apply l_ | apply m_ | apply n_ | apply o_ | refine p_ (fun _ => ?_) (fun _ => ?_)) <;> (conv => whnf)))
  all_goals first
   | exact Ret.bool rfl
   | (exfalso; omega)
   | (refine Ret.bool ?_; simp; omega)
end Go.Proofs.YtnkkhkpkipckiaaDoor.Pm
end
section
namespace Go.Proofs.YtnkkhkpkipckiaaDoor.Pm
open Go.RowKit K
set_option linter.unusedVariables false
set_option linter.unusedSimpArgs false
set_option maxRecDepth 100000
theorem sort_parts (l : List ValueD) (k : Nat) : sortV (sortV (l.take k) ++ sortV (l.drop k)) = sortV l := by
 refine (sortV_uniq ?_ (sortV_sorted l))
 refine (sortV_perm l).trans ?_
 conv => lhs; rw [← List.take_append_drop k l]
 exact ((sortV_perm _).symm).append ((sortV_perm _).symm)
theorem sort_sort (l : List ValueD) : sortV (sortV l) = sortV l := sortV_uniq (List.Perm.refl _) (sortV_sorted l)
theorem law_SortParts (l : List ValueD) (hl : okVl l) (k : Int) (hk : okInt k) : Pure Tryd.prog 10 [slV 3 ValueD.c l, pInt .i64 k] (pBool true) := by
 have h1 := okVl_len hl
 have p1 := p_Sort l h1
 refine pure_of Tryd.func10 (by rfl) rfl (by kernel_rfl) (by rfl) ?_
 by_cases h : sortE l = 0
 ·obtain ⟨r, h40, hc⟩ := sortR_ok h
  rw [h, r] at p1
  by_cases hr : 0 ≤ k ∧ k ≤ l.length
  ·obtain ⟨n, rfl⟩ : ∃ n : Nat, k = n := ⟨k.toNat, by omega⟩
   have hn : n ≤ l.length := by omega
   have hsl := sortV_len l
   have la : (l.take n).length = n := by rw [List.length_take]; omega
   have lb : (l.drop n).length = l.length - n := List.length_drop
   have ea : sortE (l.take n) = 0 := sortE_ok (by omega) (fun v hv => hc v (List.mem_of_mem_take hv))
   have eb : sortE (l.drop n) = 0 := sortE_ok (by omega) (fun v hv => hc v (List.mem_of_mem_drop hv))
   have pa := p_Sort (l.take n) (by omega)
   have pb := p_Sort (l.drop n) (by omega)
   rw [show sortR (l.take n) = sortV (l.take n) from if_pos ea, ea] at pa
   rw [show sortR (l.drop n) = sortV (l.drop n) from if_pos eb, eb] at pb
   have xa : PV.d (.c (.sl 3 (List.take (((n : Nat) : Int).toNat - Int.toNat 0) (List.drop (Int.toNat 0) (List.map ValueD.c l))))) = slV 3 ValueD.c (l.take n) := by
    rw [show ((n : Nat) : Int).toNat - Int.toNat 0 = n by omega, show Int.toNat 0 = 0 from rfl, List.drop_zero, ← List.map_take]
   have xb : PV.d (.c (.sl 3 (List.take ((((l.map ValueD.c).length : Nat) : Int).toNat - ((n : Nat) : Int).toNat) (List.drop ((n : Nat) : Int).toNat (List.map ValueD.c l))))) = slV 3 ValueD.c (l.drop n) := by
    rw [List.length_map, show ((n : Nat) : Int).toNat = n by omega, show ((l.length : Nat) : Int).toNat = l.length by omega, ← List.map_drop, List.take_of_length_le (by rw [List.length_map, lb]; omega)]
   have xn : PV.d (.c (.sl 3 ([] ++ List.map ValueD.c (sortV (l.take n)) ++ List.map ValueD.c (sortV (l.drop n))))) = slV 3 ValueD.c (sortV (l.take n) ++ sortV (l.drop n)) := by
    rw [List.nil_append, ← List.map_append]
   rw [← xa] at pa
   rw [← xb] at pb
   have sa := sortV_len (l.take n)
   have sb := sortV_len (l.drop n)
   have hm : ∀ v ∈ sortV (l.take n) ++ sortV (l.drop n), vChk v = 0 := by
    intro v hv
    rcases List.mem_append.1 hv with hv | hv
    ·exact hc v (List.mem_of_mem_take ((sortV_perm _).subset hv))
    ·exact hc v (List.mem_of_mem_drop ((sortV_perm _).subset hv))
   have en : sortE (sortV (l.take n) ++ sortV (l.drop n)) = 0 := sortE_ok (by rw [List.length_append]; omega) hm
   have eo : sortE (sortV l) = 0 := sortE_ok (by omega) (fun v hv => hc v ((sortV_perm _).subset hv))
   have pn := p_Sort (sortV (l.take n) ++ sortV (l.drop n)) (by rw [List.length_append]; omega)
   have po := p_Sort (sortV l) (by omega)
   rw [show sortR (sortV (l.take n) ++ sortV (l.drop n)) = sortV (sortV (l.take n) ++ sortV (l.drop n)) from if_pos en, en, sort_parts] at pn
   rw [← xn] at pn
   rw [show sortR (sortV l) = sortV (sortV l) from if_pos eo, eo, sort_sort] at po
   have p3 := p_samerow (sortV l) (sortV l) (by omega)
   rw [(listEqB_iff ValueD.eqB_iff _ _).2 rfl] at p3
   ((conv => whnf); repeat' ((first | (with_reducible first | apply a_ | apply b_ | apply c_) | ((with_reducible first | apply d_ | apply e_ | apply f_ | apply g_); focus first | omega | (simp only [q_] <;> omega)) | ((with_reducible first | apply i_ | apply h_); focus first | omega | (simp only [q_] <;> omega)) | ((with_reducible apply h_); focus first | decide | kernel_rfl) | refine BCase.t (by decide) ?_ | refine BCase.f (by decide) ?_ | refine CallP.pure _ rfl _ (p_valuebegun) ?_ | refine CallP.pure _ rfl _ (p1) ?_ | refine CallP.pure _ rfl _ (pa) ?_ | refine CallP.pure _ rfl _ (pb) ?_ | refine CallP.pure _ rfl _ (pn) ?_ | refine CallP.pure _ rfl _ (po) ?_ | refine CallP.pure _ rfl _ (p3) ?_ | (refine Need.by 32 rfl (by simp only [List.length_map, List.length_append, List.length_nil]; omega) ?_) | with_reducible first | apply l_ | apply m_ | apply n_ | apply o_ | refine p_ (fun _ => ?_) (fun _ => ?_)) <;> (conv => whnf)))
   all_goals first | exact Ret.bool rfl | exact Ret.bool (by simp; done) | (exfalso; omega)
  ·((conv => whnf); repeat' ((first | (with_reducible first | apply a_ | apply b_ | apply c_) | ((with_reducible first | apply d_ | apply e_ | apply f_ | apply g_); focus first | omega | (simp only [q_] <;> omega)) | ((with_reducible first | apply i_ | apply h_); focus first | omega | (simp only [q_] <;> omega)) | ((with_reducible apply h_); focus first | decide | kernel_rfl) | refine BCase.t (by decide) ?_ | refine BCase.f (by decide) ?_ | refine CallP.pure _ rfl _ (p_valuebegun) ?_ | refine CallP.pure _ rfl _ (p1) ?_ | with_reducible first | apply l_ | apply m_ | apply n_ | apply o_ | refine p_ (fun _ => ?_) (fun _ => ?_)) <;> (conv => whnf)))
   all_goals first | exact Ret.bool rfl | exact Ret.bool (by simp; done) | (exfalso; omega)
 ·have r : sortR l = [] := if_neg h
  rw [r] at p1
  ((conv => whnf); repeat' ((first | (with_reducible first | apply a_ | apply b_ | apply c_) | ((with_reducible first | apply d_ | apply e_ | apply f_ | apply g_); focus first | omega | (simp only [q_] <;> omega)) | ((with_reducible first | apply i_ | apply h_); focus first | omega | (simp only [q_] <;> omega)) | ((with_reducible apply h_); focus first | decide | kernel_rfl) | refine BCase.t (by decide) ?_ | refine BCase.f (by decide) ?_ | refine CallP.pure _ rfl _ (p_valuebegun) ?_ | refine CallP.pure _ rfl _ (p1) ?_ | with_reducible first | apply l_ | apply m_ | apply n_ | apply o_ | refine p_ (fun _ => ?_) (fun _ => ?_)) <;> (conv => whnf)))
  all_goals first | exact Ret.bool rfl | exact Ret.bool (by simp; done) | (exfalso; omega)
end Go.Proofs.YtnkkhkpkipckiaaDoor.Pm
end
