/- Texts as lists of bytes; the reckoning's stops over them. -/
import Derived.Test.YtohlkegmmbdlaaaPmHand
namespace Go.Proofs.Ytohlkegmmbdlaaa.Pm
open Go.RowKit
set_option linter.unusedVariables false
set_option linter.unusedSimpArgs false

def tx (l : List UInt8) : ByteArray := ⟨l.toArray⟩
theorem list_tx (l : List UInt8) : (tx l).data.toList = l := rfl
theorem tx_list (s : ByteArray) : tx s.data.toList = s := by cases s; simp [tx]
theorem tx_inj {a b : List UInt8} (h : tx a = tx b) : a = b := by rw [← list_tx a, h, list_tx]
theorem tx_eq {a b : List UInt8} : tx a = tx b ↔ a = b := ⟨tx_inj, fun h => by rw [h]⟩
theorem tx_size (l : List UInt8) : (tx l).size = l.length := rfl
theorem tx_append (a b : List UInt8) : tx a ++ tx b = tx (a ++ b) := by
  have h : (tx a ++ tx b).data.toList = a ++ b := by simp [ByteArray.data_append, tx]
  rw [← tx_list (tx a ++ tx b), h]
theorem extract_tx (l : List UInt8) (a b : Nat) : (tx l).extract a b = tx ((l.drop a).take (b - a)) := by
  have h : ((tx l).extract a b).data.toList = (l.drop a).take (b - a) := by
    simp [ByteArray.data_extract, tx]
  rw [← tx_list ((tx l).extract a b), h]
theorem size_mk (l : List UInt8) : (⟨l.toArray⟩ : ByteArray).size = l.length := rfl
theorem mk_tx (l : List UInt8) : (⟨l.toArray⟩ : ByteArray) = tx l := rfl
theorem tx_nil : tx [] = ByteArray.empty := rfl

/-- a number's lowest byte -/
def by1 (n : Int) : UInt8 := UInt8.ofNat (n % 256).toNat
theorem by1_int (n : Int) : ((by1 n).toNat : Int) = n % 256 := by
  have h1 : 0 ≤ n % 256 := by omega
  have h2 : n % 256 < 256 := by omega
  unfold by1
  rw [UInt8.toNat_ofNat']
  omega
theorem by1_mod (n : Int) : by1 (n % 256) = by1 n := by unfold by1; rw [Int.emod_emod_of_dvd n (Int.dvd_refl 256)]
theorem by1_toNat (b : UInt8) : by1 (b.toNat : Int) = b := by
  have := UInt8.toNat_lt b
  apply UInt8.toNat_inj.1
  have h := by1_int (b.toNat : Int)
  omega
theorem fdiv_pow (x : Int) (k m : Nat) : x.fdiv (2 ^ min (k : Int).toNat m) = x / 2 ^ min k m := by rw [Int.toNat_natCast, Int.fdiv_eq_ediv_of_nonneg _ (Int.pow_nonneg (by decide))]
theorem or_byte (a b : UInt8) : ((BitVec.ofInt 64 ((a.toNat : Int) * 256) ||| BitVec.ofInt 64 (b.toNat : Int)).toNat : Int) = (a.toNat : Int) * 256 + (b.toNat : Int) := by
  have ha := UInt8.toNat_lt a
  have hb := UInt8.toNat_lt b
  have e1 : BitVec.ofInt 64 ((a.toNat : Int) * 256) = BitVec.ofNat 64 (a.toNat * 256) := by rw [← BitVec.ofInt_natCast]; rfl
  have e2 : BitVec.ofInt 64 (b.toNat : Int) = BitVec.ofNat 64 b.toNat := BitVec.ofInt_natCast ..
  rw [e1, e2, BitVec.toNat_or, BitVec.toNat_ofNat, BitVec.toNat_ofNat, Nat.mod_eq_of_lt (by omega), Nat.mod_eq_of_lt (by omega)]
  have h := Nat.shiftLeft_add_eq_or_of_lt (i := 8) (b := b.toNat) (by omega) a.toNat
  rw [Nat.shiftLeft_eq] at h
  rw [show a.toNat * 256 = a.toNat * 2 ^ 8 from rfl, ← h]
  omega
theorem u8_lt (b : UInt8) : (b.toNat : Int) < 256 ∧ 0 ≤ (b.toNat : Int) := by have := UInt8.toNat_lt b; omega
theorem u8_eq {a b : UInt8} : ((a.toNat : Int) = (b.toNat : Int)) ↔ a = b := ⟨fun h => UInt8.toNat_inj.1 (by omega), fun h => by rw [h]⟩

theorem byteRows_set (l : List UInt8) (i : Nat) (b : UInt8) : (byteRows l).set i [C.v (.int .u8 (b.toNat : Int))] = byteRows (l.set i b) := by
  unfold byteRows; rw [List.map_set]
theorem bRows_length (l : List UInt8) : (byteRows l).length = l.length := List.length_map _

theorem Wr.u8 {x : Int} {K : Int → Prop} (h : K ((by1 x).toNat : Int)) : Wr .u8 x K := ⟨_, by rw [by1_int]; exact IntKind.wrap_u8' x, h⟩
theorem Wr.u32 {x : Int} {K : Int → Prop} (h1 : 0 ≤ x) (h2 : x ≤ 4294967295) (h : K x) : Wr .u32 x K := ⟨x, IntWalk.u32_in x ⟨h1, h2⟩, h⟩
theorem Wr.u64 {x : Int} {K : Int → Prop} (h1 : 0 ≤ x) (h2 : x ≤ 18446744073709551615) (h : K x) : Wr .u64 x K := ⟨x, IntWalk.u64_in x ⟨h1, h2⟩, h⟩
/-- lengths, for the reckoning's words -/
theorem lens : (∀ {α β : Type} {f : α → β} {l : List α}, (l.map f).length = l.length) ∧ (∀ {α : Type} {a b : List α}, (a ++ b).length = a.length + b.length) ∧ (∀ {α : Type} {l : List α} {i : Nat} {x : α}, (l.set i x).length = l.length) ∧
    (∀ {α : Type} {l : List α} {i : Nat}, (l.take i).length = min i l.length) ∧ (∀ {α : Type} {l : List α} {i : Nat}, (l.drop i).length = l.length - i) ∧ (∀ {α : Type} {n : Nat} {x : α}, (List.replicate n x).length = n) ∧
    (∀ {α : Type} {x : α} {l : List α}, (x :: l).length = l.length + 1) ∧ (∀ {α : Type}, ([] : List α).length = 0) ∧ (∀ {l : List UInt8}, (tx l).size = l.length) ∧ (∀ {l : List UInt8}, (⟨l.toArray⟩ : ByteArray).size = l.length) ∧
    (∀ {a b : ByteArray}, (a ++ b).size = a.size + b.size) :=
  ⟨List.length_map _, List.length_append, List.length_set, List.length_take, List.length_drop, List.length_replicate, List.length_cons, List.length_nil, rfl, rfl, ByteArray.size_append⟩
theorem Wr.ci {x : Int} {K : Int → Prop} (h : -9223372036854775808 ≤ x ∧ x ≤ 9223372036854775807) (k : K x) : Wr .i64 x K := Wr.i64 h.1 h.2 k
theorem Wr.c3 {x : Int} {K : Int → Prop} (h : 0 ≤ x ∧ x ≤ 4294967295) (k : K x) : Wr .u32 x K := Wr.u32 h.1 h.2 k
theorem Wr.c6 {x : Int} {K : Int → Prop} (h : 0 ≤ x ∧ x ≤ 18446744073709551615) (k : K x) : Wr .u64 x K := Wr.u64 h.1 h.2 k
theorem tdiv_nn {a : Int} (h : 0 ≤ a) (b : Int) : a.tdiv b = a / b := Int.tdiv_eq_ediv_of_nonneg h
theorem tmod_nn {a : Int} (h : 0 ≤ a) (b : Int) : a.tmod b = a % b := Int.tmod_eq_emod_of_nonneg h
theorem SIdx.tx {l : List UInt8} {n : Int} {K : Int → Prop} (k : Nat) (hk : n = k) (h : k < l.length) (hK : K ((l.getD k 0).toNat : Int)) : SIdx (tx l) n K := by
  subst hk
  have h1 : l[k]? = some l[k] := List.getElem?_eq_getElem h
  have h2 : l.getD k 0 = l[k] := by rw [List.getD_eq_getElem?_getD, h1]; rfl
  exact ⟨l.getD k 0, by omega, by show l[(k : Int).toNat]? = _; rw [Int.toNat_natCast, h1, h2], hK⟩
theorem Row.bytes {l : List UInt8} {k : Nat} {K : List C → Prop} (h : k < l.length) (hK : K [C.v (.int .u8 ((l.getD k 0).toNat : Int))]) : Row (byteRows l) k K := by
  have h1 : l[k]? = some l[k] := List.getElem?_eq_getElem h
  have h2 : l.getD k 0 = l[k] := by rw [List.getD_eq_getElem?_getD, h1]; rfl
  exact ⟨_, by unfold byteRows; rw [List.getElem?_map, h1, ← h2]; rfl, hK⟩
theorem Row.bytes' {rows : List (List C)} {l : List UInt8} {k k' : Nat} {K : List C → Prop} (e : rows = byteRows l) (hk : k' = k) (h : k < l.length) (hK : K [C.v (.int .u8 ((l.getD k 0).toNat : Int))]) : Row rows k' K := by
  subst e hk; exact Row.bytes h hK
theorem Idx.bytes {l : List UInt8} {n : Int} {K : List C → Prop} (k : Nat) (hk : n = k) (h : k < l.length) (hK : K [C.v (.int .u8 ((l.getD k 0).toNat : Int))]) : Idx (byteRows l) n K := by
  subst hk
  have h1 : l[k]? = some l[k] := List.getElem?_eq_getElem h
  have h2 : l.getD k 0 = l[k] := by rw [List.getD_eq_getElem?_getD, h1]; rfl
  exact ⟨_, by omega, by rw [Int.toNat_natCast]; unfold byteRows; rw [List.getElem?_map, h1, ← h2]; rfl, hK⟩
theorem Bytes.mk' {l : List UInt8} {K : List UInt8 → Prop} (h : K l) : Bytes (byteRows l) K := ⟨l, rfl, h⟩
theorem Bytes.of {r : List (List C)} {l : List UInt8} {K : List UInt8 → Prop} (e : r = byteRows l) (h : K l) : Bytes r K := ⟨l, e, h⟩

theorem BCase.not {b : Bool} {A B : Prop} (h : BCase b B A) : BCase (!b) A B := by
  obtain ⟨h1, h2⟩ := h
  exact ⟨fun e => h2 (by simpa using e), fun e => h1 (by simpa using e)⟩
theorem BCase.and {a b : Bool} {A B : Prop} (h : BCase a (BCase b A B) B) : BCase (a && b) A B := by
  obtain ⟨h1, h2⟩ := h
  cases a
  · exact ⟨(fun e => by cases e), fun _ => h2 rfl⟩
  · exact h1 rfl
theorem BCase.or {a b : Bool} {A B : Prop} (h : BCase a A (BCase b A B)) : BCase (a || b) A B := by
  obtain ⟨h1, h2⟩ := h
  cases a
  · exact h2 rfl
  · exact ⟨fun _ => h1 rfl, (fun e => by cases e)⟩
theorem PLe.text {f : Nat → Option Nat} {n : List Nat} {a b : ByteArray} (h : b = a) : PLe f n (pStr a) (pStr b) := by rw [h]; exact .inl rfl
theorem PLe.bool {f : Nat → Option Nat} {n : List Nat} {a b : Bool} (h : b = a) : PLe f n (pBool a) (pBool b) := by rw [h]; exact .inl rfl
theorem Ret.str {a b : ByteArray} (h : a = b) : Ret (pStr a) (pStr b) := Ret.mk (by rw [h])
theorem Ret.int {k : IntKind} {a b : Int} (h : a = b) : Ret (pInt k a) (pInt k b) := Ret.mk (by rw [h])
theorem Ret.bool {a b : Bool} (h : a = b) : Ret (pBool a) (pBool b) := Ret.mk (by rw [h])
theorem Ret.text {a b : List UInt8} (h : a = b) : Ret (pStr (tx a)) (pStr (tx b)) := Ret.mk (by rw [h])
theorem Ret.eq {v r : PV} (h : v = r) : Ret v r := Ret.mk h
/-- a contract with another answer, or other arguments, that are the same -/
theorem Pure.to {P : Program} {f : FuncId} {args args' : List PV} {res res' : PV} (h : Pure P f args res) (ha : args = args') (hr : res = res') : Pure P f args' res' := by
  subst ha hr; exact h

end Go.Proofs.Ytohlkegmmbdlaaa.Pm
