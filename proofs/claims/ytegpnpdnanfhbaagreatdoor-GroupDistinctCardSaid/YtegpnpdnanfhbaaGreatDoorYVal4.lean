/- values: the order of two; what the document says of it -/
import Derived.Test.YtegpnpdnanfhbaaGreatDoorYVal3
import Derived.Test.YtegpnpdnanfhbaaGreatDoorYStep
namespace Go.Proofs.YtegpnpdnanfhbaaGreatDoor.ValP
open Go.RowKit K
attribute [local go_sem ↓] Go.wp_at_zero Go.wp_at_succ
theorem seen_drew {w:World} {v:Value} {n sz:Nat} {cs:List Value} (h:Seen w v n sz cs):Seen w.drew v n sz cs:=h
theorem seen_ints (w:World) (l:List Int) (g n:Nat) (hg:w.heap.size=g) (hn:l.length=n) (hm:n≤maxLen):Seen (w.alloc (.cells (l.map (Value.int .i64)).toArray 3)) (.slice (some ⟨g,0,none⟩) n n) n 1 (l.map (Value.int .i64)):=
 Seen.of_own (own_built' (B:=0) (l.map (Value.int .i64)) n 1 g hg (Nat.zero_le _) hm (by rw[List.length_map,hn,Nat.mul_one]))
set_option maxRecDepth 100000 in
set_option maxHeartbeats 2000000 in
theorem order_any (k n:Int) (s:ByteArray) (k' n':Int) (s':ByteArray) (w:World) :
  Calls Tryz.prog 45 #[.agg #[.int .i64 k,.int .i64 n,.string s],.agg #[.int .i64 k',.int .i64 n',.string s']] w fun e w'=>e=.returned (.int .i64 (order (k,n,s) (k',n',s')))∧Below w.heap.size w w':=by
 have hW1:=alloc_below w (.cells #[.int .i64 k,.int .i64 n,.string s] 36)
 have hW2:=alloc_below (w.alloc (.cells #[.int .i64 k,.int .i64 n,.string s] 36)) (.cells #[.int .i64 k',.int .i64 n',.string s'] 36)
 have hW:=chain hW1 hW2
 have hB:=((Bx.new w [.int .i64 k,.int .i64 n,.string s] 36 _ rfl).alloc (.cells #[.int .i64 k',.int .i64 n',.string s'] 36)).c3
 have hD:=(Bx.new (w.alloc (.cells #[.int .i64 k,.int .i64 n,.string s] 36)) [.int .i64 k',.int .i64 n',.string s'] 36 (w.heap.size+1) (by simp)).c3
 have hWs:=hW.size
 have HO:=Lib.hid (show order (k,n,s) (k',n',s')=firstOf [cmpI k k',cmpI n n',cmpS s s'] from rfl)
 clear hW1 hW2
 go_enter Tryz.func45,Tryz.ntmps45
 go_wp2_with fail
 generalize ((w.alloc (.cells #[.int .i64 k,.int .i64 n,.string s] 36)).alloc (.cells #[.int .i64 k',.int .i64 n',.string s'] 36))=W at *
 obtain⟨b0,b1,b2,-,-,-⟩:=hB
 obtain⟨d0,d1,d2,-,-,-⟩:=hD
 go_region_held3 (fun W'=>W'.cell? ⟨w.heap.size,0,none⟩=some (.int .i64 k)∧W'.cell? ⟨w.heap.size,1,none⟩=some (.int .i64 n)∧W'.cell? ⟨w.heap.size,2,none⟩=some (.string s)∧
   W'.cell? ⟨w.heap.size+1,0,none⟩=some (.int .i64 k')∧W'.cell? ⟨w.heap.size+1,1,none⟩=some (.int .i64 n')∧W'.cell? ⟨w.heap.size+1,2,none⟩=some (.string s'))
  (first|exact⟨b0,b1,b2,d0,d1,d2⟩ | go_keep)
  (first
   | (go_at_call 65;refine (compare_int _ _ _).mono ?_;rintro e w' ⟨rfl,rfl⟩)
   | (go_at_call 66;refine (compare_int64 _ _ _).mono ?_;rintro e w' ⟨rfl,rfl⟩)
   | (go_at_call 67;refine (compare_string _ _ _).mono ?_;rintro e w' ⟨rfl,rfl⟩)
   | (go_at_call 64;refine (or_any [cmpI k k',cmpI n n',cmpS s s'] _ _ (by first|exact seen_ints _ [cmpI k k',cmpI n n',cmpS s s'] _ 3 rfl rfl (by decide) | exact seen_drew (seen_ints _ [cmpI k k',cmpI n n',cmpS s s'] _ 3 rfl rfl (by decide)))).mono ?_;rintro e w' ⟨rfl,rfl⟩))
 all_goals
  go_wp2
  go_ret
  refine⟨by rw[HO.out]<;>rfl,?_⟩
  repeat (first|exact hW|refine Below.drew ?_|refine Below.alloc ?_ (by first|omega | (simp;done) | (simp;omega)) _)
theorem cmp_step (a b:List UInt8) (k:Nat) (ha:k<a.length) (hb:k<b.length) :
  Lib.compareBytes (a.drop k) (b.drop k)=if a[k]<b[k] then -1 else if b[k]<a[k] then 1 else Lib.compareBytes (a.drop (k+1)) (b.drop (k+1)):=by
 rw[List.drop_eq_getElem_cons ha,List.drop_eq_getElem_cons hb,Lib.compareBytes]
set_option maxRecDepth 100000 in
theorem textless_any (a b:ByteArray) (w:World) (ha:a.size≤140737488351232) (hb:b.size≤140737488351232) :
  Calls Tryz.prog 69 #[.string a,.string b] w fun e w'=>e=.returned (.bool (decide (cmpS a b<0)))∧Below w.heap.size w w':=by
 go_enter Tryz.func69,Tryz.ntmps69
 go_wp2
 go_loopw [5] (fun i wr=>∃(k n:Nat),k≤a.size∧k≤b.size∧i=.int .i64 (k:Int)∧wr=w.drewN n∧Hid (cmpS a b=Lib.compareBytes (a.data.toList.drop k) (b.data.toList.drop k))) (fun i _=>a.size - (intOf i).toNat)
 case atStart=>exact⟨0,0,by omega,by omega,rfl,rfl,rfl⟩
 case round=>
  obtain⟨k,n,hk,hk',rfl,rfl,hc⟩:=hrel
  by_cases h1:k<a.size
  ·by_cases h2:k<b.size
   ·have HS:=Lib.hid (cmp_step a.data.toList b.data.toList k (by simpa using h1) (by simpa using h2))
    rw[show a.data.toList[k]'(by simpa using h1)=a[k] from rfl,show b.data.toList[k]'(by simpa using h2)=b[k] from rfl] at HS
    have l1:=UInt8.toNat_lt a[k]
    have l2:=UInt8.toNat_lt b[k]
    have hlt:Hid ((a[k]<b[k]↔a[k].toNat<b[k].toNat)∧(b[k]<a[k]↔b[k].toNat<a[k].toNat)):=⟨UInt8.lt_iff_toNat_lt,UInt8.lt_iff_toNat_lt⟩
    have h3:a[k].toNat<b[k].toNat∨b[k].toNat<a[k].toNat∨a[k].toNat=b[k].toNat:=by omega
    rcases h3 with h3 | h3 | h3
    ·have HC:=Lib.hid (show cmpS a b=-1 by rw[hc.out,HS.out,if_pos (hlt.out.1.2 h3)])
     have n1:((a[k].toNat:Int) != (b[k].toNat:Int))=true:=by rw[bne_iff_ne];omega
     have n2:decide ((a[k].toNat:Int)<(b[k].toNat:Int))=true:=by rw[decide_eq_true_eq];omega
     go_wp2
     go_quiet (fail)
     go_wp2
     go_quiet (fail)
     go_wp2
     go_ret
     exact⟨by rw[HC.out]<;>first|rfl | (simp;omega),below_drewN (below_drewN (below_drewN (Below.refl _ _) _) _) _⟩
    ·have HC:=Lib.hid (show cmpS a b=1 by rw[hc.out,HS.out,if_neg (fun e=>by have:=hlt.out.1.1 e;omega),if_pos (hlt.out.2.2 h3)])
     have n1:((a[k].toNat:Int) != (b[k].toNat:Int))=true:=by rw[bne_iff_ne];omega
     have n2:decide ((a[k].toNat:Int)<(b[k].toNat:Int))=false:=by rw[decide_eq_false_iff_not];omega
     go_wp2
     go_quiet (fail)
     go_wp2
     go_quiet (fail)
     go_wp2
     go_ret
     exact⟨by rw[HC.out]<;>first|rfl | (simp;omega),below_drewN (below_drewN (below_drewN (Below.refl _ _) _) _) _⟩
    ·have HC:=Lib.hid (show cmpS a b=Lib.compareBytes (a.data.toList.drop (k+1)) (b.data.toList.drop (k+1)) by
      rw[hc.out,HS.out,if_neg (fun e=>by have:=hlt.out.1.1 e;omega),if_neg (fun e=>by have:=hlt.out.2.1 e;omega)])
     have n1:((a[k].toNat:Int) != (b[k].toNat:Int))=false:=by rw[bne_eq_false_iff_eq];omega
     go_wp2
     go_quiet (fail)
     go_wp2
     go_roundw
     case rel=>exact⟨k+1,n+nq,by omega,by omega,by go_num,rfl,HC⟩
     case measure=>simp[intOf];omega
   ·obtain rfl:k=b.size:=by omega
    have HC:Hid (decide (cmpS a b<0)=false):=by
     show _=_
     rw[hc.out,List.drop_of_length_le (l:=b.data.toList) (by simp),List.drop_eq_getElem_cons (by simpa using h1),Lib.compareBytes]
     rfl
    go_wp2
    go_ret
    exact⟨by rw[HC.out]<;>first|rfl | (simp;omega),below_drewN (Below.refl _ _) _⟩
  ·obtain rfl:k=a.size:=by omega
   by_cases h2:a.size<b.size
   ·have HC:Hid (decide (cmpS a b<0)=true):=by
     show _=_
     rw[hc.out,List.drop_of_length_le (l:=a.data.toList) (by simp),List.drop_eq_getElem_cons (l:=b.data.toList) (by simpa using h2),Lib.compareBytes]
     rfl
    go_wp2
    go_ret
    exact⟨by rw[HC.out]<;>first|rfl | (simp;omega),below_drewN (Below.refl _ _) _⟩
   ·have HC:Hid (decide (cmpS a b<0)=false):=by
     show _=_
     rw[hc.out,List.drop_of_length_le (l:=a.data.toList) (by simp),List.drop_of_length_le (l:=b.data.toList) (by simp;omega),Lib.compareBytes]
     rfl
    go_wp2
    go_ret
    exact⟨by rw[HC.out]<;>first|rfl | (simp;omega),below_drewN (Below.refl _ _) _⟩
theorem order_less (a b:ValD):decide (order a b<0)=if a.1≠b.1 then decide (a.1<b.1) else if a.2.1≠b.2.1 then decide (a.2.1<b.2.1) else decide (cmpS a.2.2 b.2.2<0):=by
 have e:order a b=if cmpI a.1 b.1≠0 then cmpI a.1 b.1 else if cmpI a.2.1 b.2.1≠0 then cmpI a.2.1 b.2.1 else if cmpS a.2.2 b.2.2≠0 then cmpS a.2.2 b.2.2 else 0:=rfl
 rw[e]
 generalize cmpS a.2.2 b.2.2=c
 have h1:(cmpI a.1 b.1<0↔a.1<b.1)∧(cmpI a.1 b.1=0↔a.1=b.1):=by unfold cmpI;(repeat' split)<;>omega
 have h2:(cmpI a.2.1 b.2.1<0↔a.2.1<b.2.1)∧(cmpI a.2.1 b.2.1=0↔a.2.1=b.2.1):=by unfold cmpI;(repeat' split)<;>omega
 generalize cmpI a.1 b.1=x at *
 generalize cmpI a.2.1 b.2.1=y at *
 (repeat' split)<;>(apply decide_eq_decide.2;omega)
set_option maxRecDepth 100000 in
theorem valueless_any (k n:Int) (s:ByteArray) (k' n':Int) (s':ByteArray) (w:World) (hs:s.size≤140737488351232) (hs':s'.size≤140737488351232) :
  Calls Tryz.prog 48 #[.agg #[.int .i64 k,.int .i64 n,.string s],.agg #[.int .i64 k',.int .i64 n',.string s']] w fun e w'=>e=.returned (.bool (decide (order (k,n,s) (k',n',s')<0)))∧Below w.heap.size w w':=by
 have hW:=chain (alloc_below w (.cells #[.int .i64 k,.int .i64 n,.string s] 36)) (alloc_below _ (.cells #[.int .i64 k',.int .i64 n',.string s'] 36))
 have HO:=Lib.hid (order_less (k,n,s) (k',n',s'))
 by_cases h1:k=k'
 ·subst h1
  have HO1:=Lib.hid (HO.out.trans (if_neg (by simp)))
  clear HO
  by_cases h2:n=n'
  ·subst h2
   have HO2:=Lib.hid (HO1.out.trans (if_neg (by simp)))
   clear HO1
   go_enter Tryz.func48,Tryz.ntmps48
   go_wp2_with (go_at_call 69;refine (textless_any s s' _ hs hs').mono ?_;rintro e w1 ⟨rfl,hb1⟩)
   go_ret
   exact⟨by rw[HO2.out]<;>rfl,chain hW hb1⟩
  ·have HO2:=Lib.hid (HO1.out.trans (if_pos h2))
   clear HO1
   have hne:(n != n')=true:=by rw[bne_iff_ne];exact h2
   clear h2
   go_enter Tryz.func48,Tryz.ntmps48
   go_wp2_with fail
   go_ret
   exact⟨by rw[HO2.out]<;>rfl,hW⟩
 ·have HO2:=Lib.hid (HO.out.trans (if_pos h1))
  clear HO
  have hne:(k != k')=true:=by rw[bne_iff_ne];exact h1
  clear h1
  go_enter Tryz.func48,Tryz.ntmps48
  go_wp2_with fail
  go_ret
  exact⟨by rw[HO2.out]<;>rfl,hW⟩
end Go.Proofs.YtegpnpdnanfhbaaGreatDoor.ValP
