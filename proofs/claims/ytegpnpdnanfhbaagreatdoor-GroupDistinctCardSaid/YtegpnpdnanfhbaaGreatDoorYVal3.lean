/- values: the order of two -/
import Derived.Test.YtegpnpdnanfhbaaGreatDoorYVal2
namespace Go.Proofs.YtegpnpdnanfhbaaGreatDoor.ValP
open Go.RowKit K
def cmpI (a b:Int):Int:=if a<b then -1 else if b<a then 1 else 0
def cmpS (a b:ByteArray):Int:=Lib.compareBytes a.data.toList b.data.toList
def firstOf:List Int→Int
 | []=>0
 | x::l=>if x≠0 then x else firstOf l
def order (a b:ValD):Int:=firstOf [cmpI a.1 b.1,cmpI a.2.1 b.2.1,cmpS a.2.2 b.2.2]
theorem cmpI_cases (a b:Int):cmpI a b=-1∨cmpI a b=0∨cmpI a b=1:=by
 unfold cmpI
 split
 ·simp
 ·split<;>simp
theorem compareBytes_cases:∀a b:List UInt8,Lib.compareBytes a b=-1∨Lib.compareBytes a b=0∨Lib.compareBytes a b=1
 | [],[]=>by simp[Lib.compareBytes]
 | [],_::_=>by simp[Lib.compareBytes]
 | _::_,[]=>by simp[Lib.compareBytes]
 | a::xs,b::ys=>by
  unfold Lib.compareBytes
  split;· simp
  split;· simp
  exact compareBytes_cases xs ys
theorem isnan_int (a:Int) (w:World):Calls Tryz.prog 81 #[.int .i64 a] w fun e w'=>e=.returned (.bool false)∧w=w':=by
 go_enter Tryz.func81,Tryz.ntmps81
 go_wp2
 go_ret
 exact⟨by first|rfl|simp,rfl⟩
theorem isnan_int64 (a:Int) (w:World):Calls Tryz.prog 82 #[.int .i64 a] w fun e w'=>e=.returned (.bool false)∧w=w':=by
 go_enter Tryz.func82,Tryz.ntmps82
 go_wp2
 go_ret
 exact⟨by first|rfl|simp,rfl⟩
theorem compare_int (a b:Int) (w:World):Calls Tryz.prog 65 #[.int .i64 a,.int .i64 b] w fun e w'=>e=.returned (.int .i64 (cmpI a b))∧w=w':=by
 have hc:a<b∨b<a∨a=b:=by omega
 have hv:Hid ((a<b→cmpI a b=-1)∧(b<a→cmpI a b=1)∧(a=b→cmpI a b=0)):=by
  refine⟨fun h=>if_pos h,fun h=>?_,fun h=>?_⟩<;>(unfold cmpI;rw[if_neg (by omega)])<;>simp[h]
 rcases hc with h | h | rfl
 all_goals
  go_enter Tryz.func65,Tryz.ntmps65
  go_wp2_with (go_at_call 81;refine (isnan_int _ _).mono ?_;rintro e w' ⟨rfl,rfl⟩)
  go_ret
 ·exact⟨by rw[hv.out.1 h]<;>rfl,rfl⟩
 ·exact⟨by rw[hv.out.2.1 h]<;>rfl,rfl⟩
 ·exact⟨by rw[hv.out.2.2 (by simp)]<;>rfl,rfl⟩
theorem compare_int64 (a b:Int) (w:World):Calls Tryz.prog 66 #[.int .i64 a,.int .i64 b] w fun e w'=>e=.returned (.int .i64 (cmpI a b))∧w=w':=by
 have hc:a<b∨b<a∨a=b:=by omega
 have hv:Hid ((a<b→cmpI a b=-1)∧(b<a→cmpI a b=1)∧(a=b→cmpI a b=0)):=by
  refine⟨fun h=>if_pos h,fun h=>?_,fun h=>?_⟩<;>(unfold cmpI;rw[if_neg (by omega)])<;>simp[h]
 rcases hc with h | h | rfl
 all_goals
  go_enter Tryz.func66,Tryz.ntmps66
  go_wp2_with (go_at_call 82;refine (isnan_int64 _ _).mono ?_;rintro e w' ⟨rfl,rfl⟩)
  go_ret
 ·exact⟨by rw[hv.out.1 h]<;>rfl,rfl⟩
 ·exact⟨by rw[hv.out.2.1 h]<;>rfl,rfl⟩
 ·exact⟨by rw[hv.out.2.2 (by simp)]<;>rfl,rfl⟩
set_option maxRecDepth 100000 in
theorem comparestring_any (a b:ByteArray) (w:World):Calls Tryz.prog 83 #[.string a,.string b] w fun e w'=>e=.returned (.int .i64 (cmpS a b))∧w=w':=by
 go_enter Tryz.func83,Tryz.ntmps83
 go_wp2
 rw[run_callFunc_extern Tryz.func95 (by kernel_rfl) (by kernel_rfl) (by kernel_rfl) (e:=Extern.BytealgCompare.compare) (by kernel_rfl),Lib.run_compareString]
 simp only[Result.andThen]
 rw[Oper.upon_value]
 go_wp2
 go_ret
 exact⟨rfl,rfl⟩
theorem compare_string (a b:ByteArray) (w:World):Calls Tryz.prog 67 #[.string a,.string b] w fun e w'=>e=.returned (.int .i64 (cmpS a b))∧w=w':=by
 go_enter Tryz.func67,Tryz.ntmps67
 go_wp2_with (go_at_call 83;refine (comparestring_any _ _ _).mono ?_;rintro e w' ⟨rfl,rfl⟩)
 go_ret
 exact⟨rfl,rfl⟩
theorem firstOf_drop (l:List Int) (k:Nat) (hk:k<l.length):firstOf (l.drop k)=if l[k]≠0 then l[k] else firstOf (l.drop (k+1)):=by
 rw[List.drop_eq_getElem_cons hk];rfl
theorem or_any (l:List Int) (v:Value) (w:World) (hs:Seen w v l.length 1 (l.map (Value.int .i64))) :
  Calls Tryz.prog 64 #[v] w fun e w'=>e=.returned (.int .i64 (firstOf l))∧w=w':=by
 obtain⟨_,a,cap,rfl,hc,hm,hnil,hcells⟩:=id hs
 unfold maxLen at hm
 go_enter Tryz.func64,Tryz.ntmps64
 go_wp2
 go_loop [8] (fun i=>∃k:Nat,k≤l.length∧i=.int .i64 (k:Int)∧Hid (firstOf l=firstOf (l.drop k))) (fun i=>l.length - (intOf i).toNat)
 case atStart=>exact⟨0,by omega,rfl,rfl⟩
 case round=>
  obtain⟨k,hk,rfl,hf⟩:=hrel
  by_cases h:k<l.length
  ·obtain⟨b,off,rfl,hb,cl⟩:=hcells.resolve_left (by omega)
   have c0:=cl k (.int .i64 l[k]) (by simp[h])
   have HD:=Lib.hid (firstOf_drop l k h)
   generalize l[k]=x at *
   clear cl hcells hs
   cases hx:(x != 0)
   ·have HX:=Lib.hid (show ¬x≠0 by simpa using hx)
    go_wp2
    go_round
    case rel=>exact⟨k+1,by omega,by go_num,Lib.hid (by rw[hf.out,HD.out,if_neg HX.out])⟩
    case measure=>simp[intOf];omega
   ·have HX:=Lib.hid (show x≠0 by simpa using hx)
    go_wp2
    go_ret
    exact⟨by rw[hf.out,HD.out,if_pos HX.out]<;>rfl,rfl⟩
  ·obtain rfl:k=l.length:=by omega
   have hf:=Lib.hid (hf.out.trans (by rw[List.drop_length,firstOf]))
   go_wp2
   go_ret
   exact⟨by rw[hf.out]<;>rfl,rfl⟩
end Go.Proofs.YtegpnpdnanfhbaaGreatDoor.ValP
