/- Add, Sub, Mul, Neg, Div and Mod of 64-bit signed numbers: each answers the number, or that it runs over -/
import Derived.Test.YtegpnpdnanfhbaaGreatDoorYWholePure
import Derived.Shelf.Bits.Mul64
namespace Go.Proofs.YtegpnpdnanfhbaaGreatDoor.WholeP
open Go.RowKit K
abbrev pair (p:Int×Int):Value:=.tuple #[.int .i64 p.1,.int .i64 p.2]
def tell (n:Int) (c:Bool):Int×Int:=if c then (n,0) else (0,8)
theorem tell_true (n:Int) {c:Bool} (h:c=true):tell n c=(n,0):=by subst h;rfl
theorem tell_false (n:Int) {c:Bool} (h:c=false):tell n c=(0,8):=by subst h;rfl
theorem fit_true {n:Int} (h:In64 n):fit n=(n,0):=if_pos h
theorem fit_false {n:Int} (h:¬In64 n):fit n=(0,8):=if_neg h
theorem told_any (n:Int) (c:Bool) (w:World) :
  Calls Tryz.prog 80 #[.int .i64 n,.bool c] w fun e w'=>e=.returned (pair (tell n c))∧w=w':=by
 cases c<;>(go_enter Tryz.func80,Tryz.ntmps80;go_wp2_with fail;go_ret2;exact⟨rfl,rfl⟩)
theorem add_fit (a b n:Int) (ha:In64 a) (hb:In64 b) (hn:n=wrap64 (a+b)) :
  tell n (decide (0≤bits .and .i64 (bits .xor .i64 a n) (bits .xor .i64 b n)))=fit (a+b):=by
 have hn':In64 n:=by subst hn;unfold wrap64;constructor<;>omega
 have h:=and_neg _ _ (bits_in .xor a n (.inl rfl)) (bits_in .xor b n (.inl rfl))
 rw[xor_neg a n ha hn',xor_neg b n hb hn'] at h
 by_cases k:In64 (a+b)
 ·have e:n=a+b:=by subst hn;unfold wrap64;obtain⟨k1,k2⟩:=k;omega
  rw[fit_true k,tell_true,e]
  have:¬(bits .and .i64 (bits .xor .i64 a n) (bits .xor .i64 b n)<0):=by rw[h,e];omega
  simp only[decide_eq_true_eq];omega
 ·rw[fit_false k,tell_false]
  have:(bits .and .i64 (bits .xor .i64 a n) (bits .xor .i64 b n)<0):=by
   rw[h];subst hn;unfold wrap64;obtain⟨a1,a2⟩:=ha;obtain⟨b1,b2⟩:=hb;unfold In64 at k;omega
  simp only[decide_eq_false_iff_not];omega
theorem sub_fit (a b n:Int) (ha:In64 a) (hb:In64 b) (hn:n=wrap64 (a - b)) :
  tell n (decide (0≤bits .and .i64 (bits .xor .i64 a b) (bits .xor .i64 a n)))=fit (a - b):=by
 have hn':In64 n:=by subst hn;unfold wrap64;constructor<;>omega
 have h:=and_neg _ _ (bits_in .xor a b (.inl rfl)) (bits_in .xor a n (.inl rfl))
 rw[xor_neg a b ha hb,xor_neg a n ha hn'] at h
 by_cases k:In64 (a - b)
 ·have e:n=a - b:=by subst hn;unfold wrap64;obtain⟨k1,k2⟩:=k;omega
  rw[fit_true k,tell_true,e]
  have:¬(bits .and .i64 (bits .xor .i64 a b) (bits .xor .i64 a n)<0):=by rw[h,e];omega
  simp only[decide_eq_true_eq];omega
 ·rw[fit_false k,tell_false]
  have:(bits .and .i64 (bits .xor .i64 a b) (bits .xor .i64 a n)<0):=by
   rw[h];subst hn;unfold wrap64;obtain⟨a1,a2⟩:=ha;obtain⟨b1,b2⟩:=hb;unfold In64 at k;omega
  simp only[decide_eq_false_iff_not];omega
theorem add_any (a b:Int) (ha:In64 a) (hb:In64 b) (w:World) :
  Calls Tryz.prog 122 #[.int .i64 a,.int .i64 b] w fun e w'=>e=.returned (pair (fit (a+b)))∧w=w':=by
 go_enter Tryz.func122,Tryz.ntmps122
 go_wp2_with (go_at_call 80;refine (told_any _ _ _).mono ?_;rintro e w' ⟨rfl,rfl⟩)
 go_ret2
 exact⟨by rw[← add_fit a b _ ha hb rfl];rfl,rfl⟩
theorem sub_any (a b:Int) (ha:In64 a) (hb:In64 b) (w:World) :
  Calls Tryz.prog 123 #[.int .i64 a,.int .i64 b] w fun e w'=>e=.returned (pair (fit (a - b)))∧w=w':=by
 go_enter Tryz.func123,Tryz.ntmps123
 go_wp2_with (go_at_call 80;refine (told_any _ _ _).mono ?_;rintro e w' ⟨rfl,rfl⟩)
 go_ret2
 exact⟨by rw[← sub_fit a b _ ha hb rfl];rfl,rfl⟩
theorem neg_any (a:Int) (ha:In64 a) (w:World) :
  Calls Tryz.prog 128 #[.int .i64 a] w fun e w'=>e=.returned (pair (fit (-a)))∧w=w':=by
 have e0:(0:Int) - a=-a:=by omega
 go_enter Tryz.func128,Tryz.ntmps128
 go_wp2_with (go_at_call 123;refine (sub_any 0 a ⟨by decide,by decide⟩ ha _).mono ?_;rintro e w' ⟨rfl,rfl⟩)
 go_ret2
 exact⟨by rw[← e0];rfl,rfl⟩
theorem size_any (a:Int) (ha:In64 a) (w:World) :
  Calls Tryz.prog 138 #[.int .i64 a] w fun e w'=>e=.returned (.int .u64 ((a.natAbs:Nat):Int))∧w=w':=by
 obtain⟨a1,a2⟩:=ha
 by_cases h:a<0
 ·have e:((a.natAbs:Nat):Int)=IntKind.u64.wrap (-IntKind.u64.wrap a):=by simp only[IntKind.wrap_u64];omega
  go_enter Tryz.func138,Tryz.ntmps138
  go_wp2_with fail
  go_ret
  exact⟨by rw[e];rfl,rfl⟩
 ·have e:((a.natAbs:Nat):Int)=a:=by omega
  go_enter Tryz.func138,Tryz.ntmps138
  go_wp2_with fail
  go_ret
  exact⟨by first | (rw[e];rfl) | rfl,rfl⟩
def lays264_ren:Go.Shelf.Ren:=⟨fun | 264=>137 | n=>n,fun | 53=>115 | 46=>121 | n=>n,fun | n=>n⟩
theorem lays264:Go.Proofs.Lays.n264 Tryz.prog lays264_ren:={
 mixed:=by kernel_rfl
 f264:=Tryz.func137.trans (congrArg some (by kernel_rfl))
 t46:=Tryz.underlying121
 a46:=Tryz.isAgg121
 z46:=Tryz.sizeOf121
 v46:=Tryz.zeroValue121
 t53:=Tryz.underlying115
 a53:=Tryz.isAgg115
 z53:=Tryz.sizeOf115
 v53:=Tryz.zeroValue115 }
theorem mul64_any (x y:Nat) (hx:x<18446744073709551616) (hy:y<18446744073709551616) (w:World) :
  Calls Tryz.prog 137 #[.int .u64 x,.int .u64 y] w fun e w'=>e=.returned (.tuple #[.int .u64 ((x*y / 18446744073709551616:Nat):Int),.int .u64 ((x*y%18446744073709551616:Nat):Int)])∧w'=w:=Any.bits_Mul64 lays264 x y hx hy w
theorem mul64_int (x y:Int) (X:Nat) (hx:0≤x) (hx':x<18446744073709551616) (hy:0≤y) (hy':y<18446744073709551616) (hX:(X:Int)=x*y) (w:World) :
  Calls Tryz.prog 137 #[.int .u64 x,.int .u64 y] w fun e w'=>e=.returned (.tuple #[.int .u64 ((X:Int) / 18446744073709551616),.int .u64 ((X:Int)%18446744073709551616)])∧w=w':=by
 obtain⟨x,rfl⟩:=Int.eq_ofNat_of_zero_le hx
 obtain⟨y,rfl⟩:=Int.eq_ofNat_of_zero_le hy
 have:X=x*y:=by exact_mod_cast hX
 subst this
 exact (mul64_any x y (by omega) (by omega) w).mono fun e w' ⟨h,k⟩=>⟨h,k.symm⟩
theorem mul_abs (a b:Int):((a.natAbs*b.natAbs:Nat):Int)=((a.natAbs:Nat):Int)*((b.natAbs:Nat):Int):=by simp
theorem mul_sign (a b:Int):((a<0↔b<0)→0≤a*b)∧(¬(a<0↔b<0)→a*b≤0):=by
 constructor
 ·intro h
  by_cases k:a<0
  ·have:=Int.mul_nonneg_of_nonpos_of_nonpos (Int.le_of_lt k) (Int.le_of_lt (h.1 k));exact this
  ·exact Int.mul_nonneg (by omega) (by omega)
 ·intro h
  by_cases k:a<0
  ·exact Int.mul_nonpos_of_nonpos_of_nonneg (Int.le_of_lt k) (by omega)
  ·exact Int.mul_nonpos_of_nonneg_of_nonpos (by omega) (by omega)
theorem fit_pos (p q:Int) (hq:((p.natAbs:Nat):Int)=q) (hp:0≤p) (h:q / 18446744073709551616=0) :
  tell (wrap64 (q%18446744073709551616)) (decide (q%18446744073709551616≤9223372036854775807))=fit p:=by
 unfold wrap64
 by_cases k:In64 p
 ·rw[fit_true k,tell_true _ (by obtain⟨k1,k2⟩:=k;simp;omega)]
  obtain⟨k1,k2⟩:=k
  exact Prod.ext (by show _=p;omega) rfl
 ·rw[fit_false k,tell_false _ (by unfold In64 at k;simp;omega)]
theorem fit_neg (p q:Int) (hq:((p.natAbs:Nat):Int)=q) (hp:p≤0) (h:q / 18446744073709551616=0) :
  tell (wrap64 (-wrap64 (q%18446744073709551616))) (decide (q%18446744073709551616≤9223372036854775808))=fit p:=by
 unfold wrap64
 by_cases k:In64 p
 ·rw[fit_true k,tell_true _ (by obtain⟨k1,k2⟩:=k;simp;omega)]
  obtain⟨k1,k2⟩:=k
  exact Prod.ext (by show _=p;omega) rfl
 ·rw[fit_false k,tell_false _ (by unfold In64 at k;simp;omega)]
theorem fit_far (p q:Int) (hq:((p.natAbs:Nat):Int)=q) (n:Int) (h:¬q / 18446744073709551616=0):tell n false=fit p:=by
 rw[fit_false (by unfold In64;omega)];rfl
set_option maxRecDepth 100000 in
theorem mul_any (a b:Int) (ha:In64 a) (hb:In64 b) (w:World) :
  Calls Tryz.prog 124 #[.int .i64 a,.int .i64 b] w fun e w'=>e=.returned (pair (fit (a*b)))∧w=w':=by
 have hX:a.natAbs*b.natAbs=(a*b).natAbs:=(Int.natAbs_mul a b).symm
 have hXi:=mul_abs a b
 obtain⟨s1,s2⟩:=mul_sign a b
 have a0:(0:Int)≤((a.natAbs:Nat):Int):=by omega
 have a1:((a.natAbs:Nat):Int)<18446744073709551616:=by obtain⟨_,_⟩:=ha;omega
 have b0:(0:Int)≤((b.natAbs:Nat):Int):=by omega
 have b1:((b.natAbs:Nat):Int)<18446744073709551616:=by obtain⟨_,_⟩:=hb;omega
 have hsa:=size_any a ha
 have hsb:=size_any b hb
 generalize a*b=p at *
 generalize a.natAbs*b.natAbs=X at *
 generalize ((a.natAbs:Nat):Int)=x at *
 generalize ((b.natAbs:Nat):Int)=y at *
 have sp:decide (a<0)=decide (b<0)→0≤p:=fun h=>s1 (by simpa using h)
 have sn:decide (a<0)≠decide (b<0)→p≤0:=fun h=>s2 (by simpa using h)
 subst hX
 have hm:=fun w=>mul64_int x y _ a0 a1 b0 b1 hXi w
 clear hXi
 generalize hq:((p.natAbs:Nat):Int)=q at *
 cases ka:decide (a<0)<;>cases kb:decide (b<0)<;>by_cases hz:q / 18446744073709551616=0
 all_goals
  have hz':=hz
  clear ha hb s1 s2
  go_enter Tryz.func124,Tryz.ntmps124
  go_wp2_with (first
   | (go_at_call 138;(with_reducible refine (hsa _).mono ?_);rintro e w' ⟨rfl,rfl⟩)
   | (go_at_call 138;(with_reducible refine (hsb _).mono ?_);rintro e w' ⟨rfl,rfl⟩)
   | (go_at_call 137;(with_reducible refine (hm _).mono ?_);rintro e w' ⟨rfl,rfl⟩)
   | (go_at_call 80;refine (told_any _ _ _).mono ?_;rintro e w' ⟨rfl,rfl⟩))
  go_ret2
  first
   | exact⟨by rw[← fit_pos p q hq (sp (by rw[ka,kb])) hz];rfl,rfl⟩
   | exact⟨by rw[← fit_neg p q hq (sn (by rw[ka,kb];decide)) hz];rfl,rfl⟩
   | exact⟨by rw[← fit_far p q hq _ hz];rfl,rfl⟩
def quo (a b:Int):Int×Int:=if b=0 then (0,9) else fit (a.tdiv b)
def rem (a b:Int):Int×Int:=if b=0 then (0,9) else (a.tmod b,0)
theorem tdiv_in (a b:Int) (ha:In64 a) (hb:In64 b) (h0:b≠0) (h1:b≠-1):In64 (a.tdiv b):=by
 have h:(a.tdiv b).natAbs=a.natAbs / b.natAbs:=by rw[Int.natAbs_tdiv];rfl
 obtain⟨a1,a2⟩:=ha
 by_cases hb1:b=1
 ·subst hb1;rw[Int.tdiv_one];exact⟨a1,a2⟩
 ·have:a.natAbs / b.natAbs≤a.natAbs / 2:=Nat.div_le_div_left (by omega) (by decide)
  constructor<;>omega
set_option maxRecDepth 100000 in
theorem div_any (a b:Int) (ha:In64 a) (hb:In64 b) (w:World) :
  Calls Tryz.prog 125 #[.int .i64 a,.int .i64 b] w fun e w'=>e=.returned (pair (quo a b))∧w=w':=by
 by_cases h0:b=0
 ·subst h0
  go_enter Tryz.func125,Tryz.ntmps125
  go_wp2_with fail
  go_ret2
  exact⟨rfl,rfl⟩
 by_cases h1:b=-1
 ·subst h1
  have e:quo a (-1)=fit (-a):=by unfold quo;rw[if_neg (by decide),show a.tdiv (-1)=-a from by rw[Int.tdiv_neg,Int.tdiv_one]]
  rw[e]
  go_enter Tryz.func125,Tryz.ntmps125
  go_wp2_with (go_at_call 128;refine (neg_any a ha _).mono ?_;rintro e w' ⟨rfl,rfl⟩)
  go_ret2
  exact⟨rfl,rfl⟩
 ·have hin:=tdiv_in a b ha hb h0 h1
  have e:quo a b=(a.tdiv b,0):=by unfold quo;rw[if_neg h0,fit_true hin]
  have hw:wrap64 (a.tdiv b)=a.tdiv b:=by obtain⟨k1,k2⟩:=hin;unfold wrap64;omega
  rw[e]
  clear e
  go_enter Tryz.func125,Tryz.ntmps125
  go_wp2_with fail
  go_ret2
  exact⟨by first|rfl | (rw[← hw];rfl),rfl⟩
theorem tmod_in (a b:Int) (ha:In64 a):In64 (a.tmod b):=by
 have h:(a.tmod b).natAbs=a.natAbs%b.natAbs:=by rw[Int.natAbs_tmod]
 have:a.natAbs%b.natAbs≤a.natAbs:=Nat.mod_le _ _
 obtain⟨a1,a2⟩:=ha
 by_cases hs:0≤a
 ·have:=Int.tmod_nonneg b hs
  constructor<;>omega
 ·have:0≤(-a).tmod b:=Int.tmod_nonneg b (by omega)
  rw[Int.neg_tmod] at this
  constructor<;>omega
set_option maxRecDepth 100000 in
theorem mod_any (a b:Int) (ha:In64 a) (hb:In64 b) (w:World) :
  Calls Tryz.prog 126 #[.int .i64 a,.int .i64 b] w fun e w'=>e=.returned (pair (rem a b))∧w=w':=by
 by_cases h0:b=0
 ·subst h0
  go_enter Tryz.func126,Tryz.ntmps126
  go_wp2_with fail
  go_ret2
  exact⟨rfl,rfl⟩
 by_cases h1:b=-1
 ·subst h1
  have e:rem a (-1)=(0,0):=by unfold rem;rw[if_neg (by decide),Int.tmod_neg,Int.tmod_one]
  rw[e]
  go_enter Tryz.func126,Tryz.ntmps126
  go_wp2_with fail
  go_ret2
  exact⟨rfl,rfl⟩
 ·have hin:=tmod_in a b ha
  have e:rem a b=(a.tmod b,0):=by unfold rem;rw[if_neg h0]
  have hw:wrap64 (a.tmod b)=a.tmod b:=by obtain⟨k1,k2⟩:=hin;unfold wrap64;omega
  rw[e]
  clear e
  go_enter Tryz.func126,Tryz.ntmps126
  go_wp2_with fail
  go_ret2
  exact⟨by first|rfl | (rw[← hw];rfl),rfl⟩
end Go.Proofs.YtegpnpdnanfhbaaGreatDoor.WholeP
