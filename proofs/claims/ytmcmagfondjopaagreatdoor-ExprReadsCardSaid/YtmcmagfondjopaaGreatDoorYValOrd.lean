/- values: the order is one; two that were handed in -/
import Derived.Test.YtmcmagfondjopaaGreatDoorYVal4
namespace Go.Proofs.YtmcmagfondjopaaGreatDoor.ValP
open Go.RowKit K Go.ChangeShapes Go.WideShapes
def valOk (x : ValD) : Prop := (-9223372036854775808 ≤ x.1 ∧ x.1 ≤ 9223372036854775807) ∧ (-9223372036854775808 ≤ x.2.1 ∧ x.2.1 ≤ 9223372036854775807) ∧ ((x.2.2).size ≤ 140737488351232)
theorem opens_val : Opens Tryz.prog 34 3 (fun _ cs x => cs = valOf x) valOk := by
 refine ⟨by kernel_rfl, by decide, ?_⟩
 intro H enc w spare held fuel cs x h hl
 have ht : Tryz.prog.underlying 34 = some (.struct (Tryz.prog.fieldsOf 34)) := by kernel_rfl
 have hlen := struct_len ht h
 rw [show Tryz.prog.cellsOf 34 = 3 by kernel_rfl] at hlen
 obtain ⟨a0, e0, k0⟩ := field_of ht h hl 0 3 0 1 (by kernel_rfl) (opens_i64 Tryz.underlying3 (by kernel_rfl))
 obtain ⟨a1, e1, k1⟩ := field_of ht h hl 1 2 1 1 (by kernel_rfl) (opens_i64 Tryz.underlying2 (by kernel_rfl))
 obtain ⟨a2, e2, k2⟩ := field_of ht h hl 2 9 2 1 (by kernel_rfl) (opens_string Tryz.underlying9 (by kernel_rfl))
 obtain ⟨c0, c1, c2, rfl⟩ := cells3 hlen
 obtain rfl : c0 = _ := by simpa using e0
 obtain rfl : c1 = _ := by simpa using e1
 obtain rfl : c2 = _ := by simpa using e2
 exact ⟨rfl, (a0, a1, a2), rfl, ⟨k0, k1, k2⟩⟩
def IsVal (v : Value) (x : ValD) : Prop := v = .agg #[.int .i64 x.1, .int .i64 x.2.1, .string x.2.2]
theorem valR_is {v : Value} {x : ValD} (hu : v = .agg v.cells.toList.toArray) (h : v.cells.toList = valOf x) : IsVal v x := by
 rw [h] at hu
 exact hu
theorem compareBytes_swap : ∀ a b : List UInt8, Lib.compareBytes b a = - Lib.compareBytes a b
 | [], [] => by simp [Lib.compareBytes]
 | [], _ :: _ => by simp [Lib.compareBytes]
 | _ :: _, [] => by simp [Lib.compareBytes]
 | a :: xs, b :: ys => by
  have ih := compareBytes_swap xs ys
  simp only [Lib.compareBytes]
  by_cases h : a < b
  ·have h' : ¬ b < a := fun k => by simp only [UInt8.lt_iff_toNat_lt] at h k; omega
   rw [if_pos h, if_neg h', if_pos h]; rfl
  ·by_cases h' : b < a
   ·rw [if_pos h', if_neg h, if_pos h']
   ·rw [if_neg h', if_neg h, if_neg h, if_neg h', ih]
theorem compareBytes_zero : ∀ a b : List UInt8, Lib.compareBytes a b = 0 ↔ a = b
 | [], [] => by simp [Lib.compareBytes]
 | [], _ :: _ => by simp [Lib.compareBytes]
 | _ :: _, [] => by simp [Lib.compareBytes]
 | a :: xs, b :: ys => by
  have ih := compareBytes_zero xs ys
  simp only [Lib.compareBytes, List.cons.injEq]
  by_cases h : a < b
  ·have h' : a ≠ b := fun k => by subst k; simp at h
   rw [if_pos h]; simp [h']
  ·by_cases h' : b < a
   ·have h2 : a ≠ b := fun k => by subst k; simp at h'
    rw [if_neg h, if_pos h']; simp [h2]
   ·have h2 : a = b := UInt8.toNat_inj.1 (by simp only [UInt8.lt_iff_toNat_lt] at h h'; omega)
    rw [if_neg h, if_neg h', ih]; simp [h2]
theorem order_eq (a b : ValD) : order a b = if cmpI a.1 b.1 ≠ 0 then cmpI a.1 b.1 else if cmpI a.2.1 b.2.1 ≠ 0 then cmpI a.2.1 b.2.1 else if cmpS a.2.2 b.2.2 ≠ 0 then cmpS a.2.2 b.2.2 else 0 := rfl
theorem cmpI_swap (a b : Int) : cmpI b a = - cmpI a b := by unfold cmpI; (repeat' split) <;> omega
theorem cmpI_zero (a b : Int) : cmpI a b = 0 ↔ a = b := by unfold cmpI; (repeat' split) <;> omega
theorem cmpS_zero (a b : ByteArray) : cmpS a b = 0 ↔ a = b := by
 rw [cmpS, compareBytes_zero]
 constructor
 ·intro h
  have : a.data = b.data := by rw [← Array.toArray_toList (xs := a.data), h]
  cases a; cases b; simp_all
 ·rintro rfl; rfl
theorem order_swap (a b : ValD) : order b a = - order a b := by
 rw [order_eq, order_eq, cmpI_swap a.1 b.1, cmpI_swap a.2.1 b.2.1, show cmpS b.2.2 a.2.2 = - cmpS a.2.2 b.2.2 from compareBytes_swap _ _]
 (repeat' split) <;> omega
theorem order_zero (a b : ValD) : order a b = 0 ↔ a = b := by
 rw [order_eq]
 have h1 := cmpI_zero a.1 b.1
 have h2 := cmpI_zero a.2.1 b.2.1
 have h3 := cmpS_zero a.2.2 b.2.2
 obtain ⟨k, n, s⟩ := a
 obtain ⟨k', n', s'⟩ := b
 simp only [Prod.mk.injEq] at *
 rw [← h1, ← h2, ← h3]
 (repeat' split) <;> omega
end Go.Proofs.YtmcmagfondjopaaGreatDoor.ValP
