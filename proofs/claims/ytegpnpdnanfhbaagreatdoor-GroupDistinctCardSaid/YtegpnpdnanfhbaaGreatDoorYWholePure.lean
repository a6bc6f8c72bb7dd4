/- 64-bit signed numbers: the signs of what is masked; plain specifications -/
import Derived.Test.YtegpnpdnanfhbaaGreatDoorYKit
namespace Go.Proofs.YtegpnpdnanfhbaaGreatDoor.WholeP
open Go.RowKit
def fit (n:Int):Int×Int:=if -9223372036854775808≤n∧n≤9223372036854775807 then (n,0) else (0,8)
abbrev In64 (n:Int):Prop:=-9223372036854775808≤n∧n≤9223372036854775807
theorem wrap_toInt (x:BitVec 64):IntKind.i64.wrap (x.toNat:Int)=x.toInt:=by
 rw[IntKind.wrap_i64,BitVec.toInt_eq_toNat_cond]
 have:=x.isLt
 split<;>omega
theorem neg_msb (x:BitVec 64):x.toInt<0↔x.msb=true:=by
 rw[BitVec.msb_eq_toInt];simp
theorem ofInt_msb (a:Int) (h:In64 a):(BitVec.ofInt 64 a).msb=decide (a<0):=by
 rw[BitVec.msb_eq_toInt,BitVec.toInt_ofInt_eq_self (by decide) (by have:=h.1;simpa using this) (by have:=h.2;show a<9223372036854775808;omega)]
theorem xor_neg (a b:Int) (ha:In64 a) (hb:In64 b):bits .xor .i64 a b<0↔¬(a<0↔b<0):=by
 show IntKind.i64.wrap ((BitVec.ofInt 64 a ^^^ BitVec.ofInt 64 b).toNat:Nat)<0↔_
 rw[wrap_toInt,neg_msb,BitVec.msb_xor,ofInt_msb a ha,ofInt_msb b hb]
 by_cases h1:a<0<;>by_cases h2:b<0<;>simp[h1,h2]
theorem and_neg (a b:Int) (ha:In64 a) (hb:In64 b):bits .and .i64 a b<0↔(a<0∧b<0):=by
 show IntKind.i64.wrap ((BitVec.ofInt 64 a &&& BitVec.ofInt 64 b).toNat:Nat)<0↔_
 rw[wrap_toInt,neg_msb,BitVec.msb_and,ofInt_msb a ha,ofInt_msb b hb]
 by_cases h1:a<0<;>by_cases h2:b<0<;>simp[h1,h2]
theorem bits_in (op:BinOp) (a b:Int) (h:op=.xor∨op=.and):In64 (bits op .i64 a b):=by
 rcases h with rfl | rfl
 ·show In64 (IntKind.i64.wrap ((BitVec.ofInt 64 a ^^^ BitVec.ofInt 64 b).toNat:Nat))
  rw[IntKind.wrap_i64];constructor<;>omega
 ·show In64 (IntKind.i64.wrap ((BitVec.ofInt 64 a &&& BitVec.ofInt 64 b).toNat:Nat))
  rw[IntKind.wrap_i64];constructor<;>omega
end Go.Proofs.YtegpnpdnanfhbaaGreatDoor.WholeP
