/- the reference on 64-bit signed numbers, and what the laws ask in any case -/
import Derived.Test.YtdgmbijjhifbeaaGreatDoorYWholeWalk
namespace Go.Proofs.YtdgmbijjhifbeaaGreatDoor.WholeP
open Go.RowKit K
theorem plusof_any (a b:Int) (ha:In64 a) (hb:In64 b) (w:World) :
  Calls Tryz.prog 157 #[.int .i64 a,.int .i64 b] w fun e w'=>e=.returned (pair (fit (a+b)))∧w=w':=by
 obtain⟨a1,a2⟩:=ha
 obtain⟨b1,b2⟩:=hb
 rcases Int.lt_trichotomy b 0 with hb | rfl | hb
 ·have e1:wrap64 (-9223372036854775808 - b)=-9223372036854775808 - b:=by unfold wrap64;omega
  by_cases k:a < -9223372036854775808 - b
  ·rw[fit_false (by unfold In64;omega)]
   go_enter Tryz.func157,Tryz.ntmps157
   go_wp2_with fail
   go_ret2
   exact⟨rfl,rfl⟩
  ·rw[fit_true ⟨by omega,by omega⟩]
   have e2:wrap64 (a+b)=a+b:=by unfold wrap64;omega
   go_enter Tryz.func157,Tryz.ntmps157
   go_wp2_with fail
   go_ret2
   exact⟨rfl,rfl⟩
 ·rw[Int.add_zero,fit_true ⟨by omega,by omega⟩]
  have e2:wrap64 a=a:=by unfold wrap64;omega
  go_enter Tryz.func157,Tryz.ntmps157
  go_wp2_with fail
  go_ret2
  exact⟨rfl,rfl⟩
 ·have e1:wrap64 (9223372036854775807 - b)=9223372036854775807 - b:=by unfold wrap64;omega
  by_cases k:a>9223372036854775807 - b
  ·rw[fit_false (by unfold In64;omega)]
   go_enter Tryz.func157,Tryz.ntmps157
   go_wp2_with fail
   go_ret2
   exact⟨rfl,rfl⟩
  ·rw[fit_true ⟨by omega,by omega⟩]
   have e2:wrap64 (a+b)=a+b:=by unfold wrap64;omega
   go_enter Tryz.func157,Tryz.ntmps157
   go_wp2_with fail
   go_ret2
   exact⟨rfl,rfl⟩
theorem minusof_any (a b:Int) (ha:In64 a) (hb:In64 b) (w:World) :
  Calls Tryz.prog 156 #[.int .i64 a,.int .i64 b] w fun e w'=>e=.returned (pair (fit (a - b)))∧w=w':=by
 obtain⟨a1,a2⟩:=ha
 obtain⟨b1,b2⟩:=hb
 rcases Int.lt_trichotomy b 0 with hb | rfl | hb
 ·have e1:wrap64 (9223372036854775807+b)=9223372036854775807+b:=by unfold wrap64;omega
  by_cases k:a>9223372036854775807+b
  ·rw[fit_false (by unfold In64;omega)]
   go_enter Tryz.func156,Tryz.ntmps156
   go_wp2_with fail
   go_ret2
   exact⟨rfl,rfl⟩
  ·rw[fit_true ⟨by omega,by omega⟩]
   have e2:wrap64 (a - b)=a - b:=by unfold wrap64;omega
   go_enter Tryz.func156,Tryz.ntmps156
   go_wp2_with fail
   go_ret2
   exact⟨rfl,rfl⟩
 ·rw[Int.sub_zero,fit_true ⟨by omega,by omega⟩]
  have e2:wrap64 a=a:=by unfold wrap64;omega
  go_enter Tryz.func156,Tryz.ntmps156
  go_wp2_with fail
  go_ret2
  exact⟨rfl,rfl⟩
 ·have e1:wrap64 (-9223372036854775808+b)=-9223372036854775808+b:=by unfold wrap64;omega
  by_cases k:a < -9223372036854775808+b
  ·rw[fit_false (by unfold In64;omega)]
   go_enter Tryz.func156,Tryz.ntmps156
   go_wp2_with fail
   go_ret2
   exact⟨rfl,rfl⟩
  ·rw[fit_true ⟨by omega,by omega⟩]
   have e2:wrap64 (a - b)=a - b:=by unfold wrap64;omega
   go_enter Tryz.func156,Tryz.ntmps156
   go_wp2_with fail
   go_ret2
   exact⟨rfl,rfl⟩
theorem over_pp (a b:Int) (ha:0<a) (hb:0<b):In64 (a*b)↔¬a>(9223372036854775807:Int).tdiv b:=by
 have h0:0≤a*b:=Int.mul_nonneg (by omega) (by omega)
 have e:(9223372036854775807:Int).tdiv b=9223372036854775807 / b:=Int.tdiv_eq_ediv_of_nonneg (by decide)
 have h:=Int.le_ediv_iff_mul_le (a:=a) (b:=9223372036854775807) hb
 rw[e];unfold In64;omega
theorem over_nn (a b:Int) (ha:a<0) (hb:b<0):In64 (a*b)↔¬a<(9223372036854775807:Int).tdiv b:=by
 have h:=over_pp (-a) (-b) (by omega) (by omega)
 rw[Int.neg_mul_neg,Int.tdiv_neg] at h
 rw[h];omega
theorem over_pn (a b:Int) (ha:0<a) (hb:b<0):In64 (a*b)↔¬b<(-9223372036854775808:Int).tdiv a:=by
 have h0:a*b≤0:=Int.mul_nonpos_of_nonneg_of_nonpos (by omega) (by omega)
 have e:(-9223372036854775808:Int).tdiv a=-(9223372036854775808 / a):=by
  rw[Int.neg_tdiv,Int.tdiv_eq_ediv_of_nonneg (by decide)]
 have h:=Int.le_ediv_iff_mul_le (a:=-b) (b:=9223372036854775808) ha
 have e2:-b*a=-(a*b):=by rw[Int.neg_mul,Int.mul_comm]
 rw[e2] at h
 rw[e];unfold In64;omega
theorem over_np (a b:Int) (ha:a<0) (hb:0<b):In64 (a*b)↔¬a<(-9223372036854775808:Int).tdiv b:=by
 rw[Int.mul_comm];exact over_pn b a hb ha
theorem quo_in (n b:Int) (hn:n=9223372036854775807∨n=-9223372036854775808) (_h0:b≠0) (h1:n=-9223372036854775808→0<b):wrap64 (n.tdiv b)=n.tdiv b:=by
 have h:(n.tdiv b).natAbs=n.natAbs / b.natAbs:=by rw[Int.natAbs_tdiv];rfl
 have h2:n.natAbs / b.natAbs≤n.natAbs:=Nat.div_le_self _ _
 unfold wrap64
 rcases hn with rfl | rfl
 ·omega
 ·have:(-9223372036854775808:Int).tdiv b≤0:=by
   have:=Int.tdiv_nonneg (a:=9223372036854775808) (b:=b) (by decide) (by have:=h1 rfl;omega)
   rw[Int.neg_tdiv];omega
  omega
set_option maxRecDepth 100000 in
theorem timesof_any (a b:Int) (ha:In64 a) (hb:In64 b) (w:World) :
  Calls Tryz.prog 158 #[.int .i64 a,.int .i64 b] w fun e w'=>e=.returned (pair (fit (a*b)))∧w=w':=by
 by_cases ha0:a=0
 ·subst ha0
  rw[Int.zero_mul]
  go_enter Tryz.func158,Tryz.ntmps158
  go_wp2_with fail
  go_ret2
  exact⟨rfl,rfl⟩
 by_cases hb0:b=0
 ·subst hb0
  rw[Int.mul_zero]
  go_enter Tryz.func158,Tryz.ntmps158
  go_wp2_with fail
  go_ret2
  exact⟨rfl,rfl⟩
 have ea:(a==0)=false:=by simpa using ha0
 have eb:(b==0)=false:=by simpa using hb0
 by_cases k:In64 (a*b)
 ·rw[fit_true k]
  have hw:wrap64 (a*b)=a*b:=by obtain⟨k1,k2⟩:=k;unfold wrap64;omega
  rcases Int.lt_or_gt_of_ne ha0 with sa | sa<;>rcases Int.lt_or_gt_of_ne hb0 with sb | sb
  ·have h:=over_nn a b sa sb
   have q:=quo_in (9223372036854775807) b (.inl rfl) hb0 (fun e=>absurd e (by decide))
   have h2:=h.1 k
   clear h k
   have d1:decide (0<a)=false:=by simp;omega
   have d2:decide (a<0)=true:=by simp;omega
   have d3:decide (0<b)=false:=by simp;omega
   have d4:decide (b<0)=true:=by simp;omega
   clear sa sb
   go_enter Tryz.func158,Tryz.ntmps158
   go_wp2_with fail
   go_ret2
   exact⟨rfl,rfl⟩
  ·have h:=over_np a b sa sb
   have q:=quo_in (-9223372036854775808) b (.inr rfl) hb0 (fun _=>sb)
   rw[Int.neg_tdiv] at q h
   have h2:=h.1 k
   clear h k
   have d1:decide (0<a)=false:=by simp;omega
   have d2:decide (a<0)=true:=by simp;omega
   have d3:decide (0<b)=true:=by simp;omega
   have d4:decide (b<0)=false:=by simp;omega
   clear sa sb
   go_enter Tryz.func158,Tryz.ntmps158
   go_wp2_with fail
   go_ret2
   exact⟨rfl,rfl⟩
  ·have h:=over_pn a b sa sb
   have q:=quo_in (-9223372036854775808) a (.inr rfl) ha0 (fun _=>sa)
   rw[Int.neg_tdiv] at q h
   have h2:=h.1 k
   clear h k
   have d1:decide (0<a)=true:=by simp;omega
   have d2:decide (a<0)=false:=by simp;omega
   have d3:decide (0<b)=false:=by simp;omega
   have d4:decide (b<0)=true:=by simp;omega
   clear sa sb
   go_enter Tryz.func158,Tryz.ntmps158
   go_wp2_with fail
   go_ret2
   exact⟨rfl,rfl⟩
  ·have h:=over_pp a b sa sb
   have q:=quo_in (9223372036854775807) b (.inl rfl) hb0 (fun e=>absurd e (by decide))
   have h2:=h.1 k
   clear h k
   have d1:decide (0<a)=true:=by simp;omega
   have d2:decide (a<0)=false:=by simp;omega
   have d3:decide (0<b)=true:=by simp;omega
   have d4:decide (b<0)=false:=by simp;omega
   clear sa sb
   go_enter Tryz.func158,Tryz.ntmps158
   go_wp2_with fail
   go_ret2
   exact⟨rfl,rfl⟩
 ·rw[fit_false k]
  rcases Int.lt_or_gt_of_ne ha0 with sa | sa<;>rcases Int.lt_or_gt_of_ne hb0 with sb | sb
  ·have h:=over_nn a b sa sb
   have q:=quo_in (9223372036854775807) b (.inl rfl) hb0 (fun e=>absurd e (by decide))
   have h2:=Classical.not_not.1 (fun e=>k (h.2 e))
   clear h k
   have d1:decide (0<a)=false:=by simp;omega
   have d2:decide (a<0)=true:=by simp;omega
   have d3:decide (0<b)=false:=by simp;omega
   have d4:decide (b<0)=true:=by simp;omega
   clear sa sb
   go_enter Tryz.func158,Tryz.ntmps158
   go_wp2_with fail
   go_ret2
   exact⟨rfl,rfl⟩
  ·have h:=over_np a b sa sb
   have q:=quo_in (-9223372036854775808) b (.inr rfl) hb0 (fun _=>sb)
   rw[Int.neg_tdiv] at q h
   have h2:=Classical.not_not.1 (fun e=>k (h.2 e))
   clear h k
   have d1:decide (0<a)=false:=by simp;omega
   have d2:decide (a<0)=true:=by simp;omega
   have d3:decide (0<b)=true:=by simp;omega
   have d4:decide (b<0)=false:=by simp;omega
   clear sa sb
   go_enter Tryz.func158,Tryz.ntmps158
   go_wp2_with fail
   go_ret2
   exact⟨rfl,rfl⟩
  ·have h:=over_pn a b sa sb
   have q:=quo_in (-9223372036854775808) a (.inr rfl) ha0 (fun _=>sa)
   rw[Int.neg_tdiv] at q h
   have h2:=Classical.not_not.1 (fun e=>k (h.2 e))
   clear h k
   have d1:decide (0<a)=true:=by simp;omega
   have d2:decide (a<0)=false:=by simp;omega
   have d3:decide (0<b)=false:=by simp;omega
   have d4:decide (b<0)=true:=by simp;omega
   clear sa sb
   go_enter Tryz.func158,Tryz.ntmps158
   go_wp2_with fail
   go_ret2
   exact⟨rfl,rfl⟩
  ·have h:=over_pp a b sa sb
   have q:=quo_in (9223372036854775807) b (.inl rfl) hb0 (fun e=>absurd e (by decide))
   have h2:=Classical.not_not.1 (fun e=>k (h.2 e))
   clear h k
   have d1:decide (0<a)=true:=by simp;omega
   have d2:decide (a<0)=false:=by simp;omega
   have d3:decide (0<b)=true:=by simp;omega
   have d4:decide (b<0)=false:=by simp;omega
   clear sa sb
   go_enter Tryz.func158,Tryz.ntmps158
   go_wp2_with fail
   go_ret2
   exact⟨rfl,rfl⟩
set_option maxRecDepth 100000 in
theorem overof_any (a b:Int) (ha:In64 a) (hb:In64 b) (w:World) :
  Calls Tryz.prog 159 #[.int .i64 a,.int .i64 b] w fun e w'=>e=.returned (pair (quo a b))∧w=w':=by
 by_cases h0:b=0
 ·subst h0
  go_enter Tryz.func159,Tryz.ntmps159
  go_wp2_with fail
  go_ret2
  exact⟨rfl,rfl⟩
 by_cases h1:b=-1
 ·subst h1
  have e:quo a (-1)=fit (-a):=by unfold quo;rw[if_neg (by decide),show a.tdiv (-1)=-a from by rw[Int.tdiv_neg,Int.tdiv_one]]
  have hd:a.tdiv (-1)=-a:=by rw[Int.tdiv_neg,Int.tdiv_one]
  rw[e]
  by_cases h2:a=-9223372036854775808
  ·subst h2
   rw[fit_false (by decide)]
   go_enter Tryz.func159,Tryz.ntmps159
   go_wp2_with fail
   go_ret2
   exact⟨rfl,rfl⟩
  ·have hin:In64 (-a):=by obtain⟨_,_⟩:=ha;constructor<;>omega
   have hw:wrap64 (-a)=-a:=by obtain⟨_,_⟩:=hin;unfold wrap64;omega
   rw[fit_true hin]
   go_enter Tryz.func159,Tryz.ntmps159
   go_wp2_with fail
   go_ret2
   exact⟨by first|rfl | (rw[← hw];rfl) | exact congrArg (fun q=>Ending.returned (pair (q,0))) hw,rfl⟩
 ·have hin:=tdiv_in a b ha hb h0 h1
  have e:quo a b=(a.tdiv b,0):=by unfold quo;rw[if_neg h0,fit_true hin]
  have hw:wrap64 (a.tdiv b)=a.tdiv b:=by obtain⟨k1,k2⟩:=hin;unfold wrap64;omega
  rw[e]
  clear e
  by_cases h2:a=-9223372036854775808
  all_goals
   try subst h2
   try rw[Int.neg_tdiv] at hw ⊢
   go_enter Tryz.func159,Tryz.ntmps159
   go_wp2_with fail
   go_ret2
   exact⟨by first|rfl | (rw[← hw];rfl) | exact congrArg (fun q=>Ending.returned (pair (q,0))) hw,rfl⟩
set_option maxRecDepth 100000 in
theorem leftof_any (a b:Int) (ha:In64 a) (hb:In64 b) (w:World) :
  Calls Tryz.prog 160 #[.int .i64 a,.int .i64 b] w fun e w'=>e=.returned (pair (rem a b))∧w=w':=by
 by_cases h0:b=0
 ·subst h0
  go_enter Tryz.func160,Tryz.ntmps160
  go_wp2_with fail
  go_ret2
  exact⟨rfl,rfl⟩
 by_cases h1:b=-1
 ·subst h1
  have e:rem a (-1)=(0,0):=by unfold rem;rw[if_neg (by decide),Int.tmod_neg,Int.tmod_one]
  rw[e]
  go_enter Tryz.func160,Tryz.ntmps160
  go_wp2_with fail
  go_ret2
  exact⟨rfl,rfl⟩
 ·have hin:=tdiv_in a b ha hb h0 h1
  have hin2:=tmod_in a b ha
  have e:rem a b=(a.tmod b,0):=by unfold rem;rw[if_neg h0]
  have hm:b*a.tdiv b=a - a.tmod b:=by have:=Int.mul_tdiv_add_tmod a b;omega
  have hw:wrap64 (a.tdiv b)=a.tdiv b:=by obtain⟨k1,k2⟩:=hin;unfold wrap64;omega
  have hw2:wrap64 (a - wrap64 (a.tdiv b*b))=a.tmod b:=by
   rw[Int.mul_comm,hm];obtain⟨k1,k2⟩:=hin2;unfold wrap64;omega
  rw[e]
  clear e hm hin hin2
  go_enter Tryz.func160,Tryz.ntmps160
  go_wp2_with fail
  go_ret2
  exact⟨by first|rfl | (rw[← hw2];rfl),rfl⟩
end Go.Proofs.YtdgmbijjhifbeaaGreatDoor.WholeP
