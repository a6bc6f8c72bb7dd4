/- values: the order is one; two that were handed in -/
import Derived.Test.YtegpnpdnanfhbaaGreatDoorYVal4
namespace Go.Proofs.YtegpnpdnanfhbaaGreatDoor.ValP
open Go.RowKit K Go.ChangeShapes Go.WideShapes
theorem compareBytes_swap:∀a b:List UInt8,Lib.compareBytes b a=- Lib.compareBytes a b
 | [],[]=>by simp[Lib.compareBytes]
 | [],_::_=>by simp[Lib.compareBytes]
 | _::_,[]=>by simp[Lib.compareBytes]
 | a::xs,b::ys=>by
  have ih:=compareBytes_swap xs ys
  simp only[Lib.compareBytes]
  by_cases h:a<b
  ·have h':¬b<a:=fun k=>by simp only[UInt8.lt_iff_toNat_lt] at h k;omega
   rw[if_pos h,if_neg h',if_pos h];rfl
  ·by_cases h':b<a
   ·rw[if_pos h',if_neg h,if_pos h']
   ·rw[if_neg h',if_neg h,if_neg h,if_neg h',ih]
theorem compareBytes_zero:∀a b:List UInt8,Lib.compareBytes a b=0↔a=b
 | [],[]=>by simp[Lib.compareBytes]
 | [],_::_=>by simp[Lib.compareBytes]
 | _::_,[]=>by simp[Lib.compareBytes]
 | a::xs,b::ys=>by
  have ih:=compareBytes_zero xs ys
  simp only[Lib.compareBytes,List.cons.injEq]
  by_cases h:a<b
  ·have h':a≠b:=fun k=>by subst k;simp at h
   rw[if_pos h];simp[h']
  ·by_cases h':b<a
   ·have h2:a≠b:=fun k=>by subst k;simp at h'
    rw[if_neg h,if_pos h'];simp[h2]
   ·have h2:a=b:=UInt8.toNat_inj.1 (by simp only[UInt8.lt_iff_toNat_lt] at h h';omega)
    rw[if_neg h,if_neg h',ih];simp[h2]
theorem order_eq (a b:ValD):order a b=if cmpI a.1 b.1≠0 then cmpI a.1 b.1 else if cmpI a.2.1 b.2.1≠0 then cmpI a.2.1 b.2.1 else if cmpS a.2.2 b.2.2≠0 then cmpS a.2.2 b.2.2 else 0:=rfl
theorem cmpI_swap (a b:Int):cmpI b a=- cmpI a b:=by unfold cmpI;(repeat' split)<;>omega
theorem cmpI_zero (a b:Int):cmpI a b=0↔a=b:=by unfold cmpI;(repeat' split)<;>omega
theorem cmpS_zero (a b:ByteArray):cmpS a b=0↔a=b:=by
 rw[cmpS,compareBytes_zero]
 constructor
 ·intro h
  have:a.data=b.data:=by rw[← Array.toArray_toList (xs:=a.data),h]
  cases a;cases b;simp_all
 ·rintro rfl;rfl
theorem order_swap (a b:ValD):order b a=- order a b:=by
 rw[order_eq,order_eq,cmpI_swap a.1 b.1,cmpI_swap a.2.1 b.2.1,show cmpS b.2.2 a.2.2=- cmpS a.2.2 b.2.2 from compareBytes_swap _ _]
 (repeat' split)<;>omega
theorem order_zero (a b:ValD):order a b=0↔a=b:=by
 rw[order_eq]
 have h1:=cmpI_zero a.1 b.1
 have h2:=cmpI_zero a.2.1 b.2.1
 have h3:=cmpS_zero a.2.2 b.2.2
 obtain⟨k,n,s⟩:=a
 obtain⟨k',n',s'⟩:=b
 simp only[Prod.mk.injEq] at *
 rw[← h1,← h2,← h3]
 (repeat' split)<;>omega
end Go.Proofs.YtegpnpdnanfhbaaGreatDoor.ValP
