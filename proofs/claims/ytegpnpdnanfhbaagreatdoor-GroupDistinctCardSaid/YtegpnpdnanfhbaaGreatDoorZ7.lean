/- Parts of the proof, one behind the other: PrKey PbDist PbRef2 PrUnk PrLaws PrKeyLaws PbThm PxMk PbBegun PbLaws PbGRef PbGRef2 PbGRef3 PbParts PbGrpN PbGRef4 PbGrpQ. Conditions: none beyond what each theorem says. -/
import Derived.Test.YtegpnpdnanfhbaaGreatDoorZ6
set_option linter.unusedVariables false
set_option linter.unusedSimpArgs false
namespace Go.Proofs.YtegpnpdnanfhbaaGreatDoor.Pm
section
open Go.RowKit K NumP NumW NumRd NumZ NumL
set_option maxRecDepth 100000
theorem Wr.u64w {x:Int} {K:Int→Prop} (h:K (x%18446744073709551616)):Wr .u64 x K:=⟨_,by rw[IntKind.wrap_u64],h⟩
theorem xor_top (u:Nat) (h:u<18446744073709551616):u ^^^ 9223372036854775808=(u+9223372036854775808)%18446744073709551616:=by
 have low:∀y:Nat,y<9223372036854775808→y ^^^ 9223372036854775808=9223372036854775808+y:=by
  intro y hy
  apply Nat.eq_of_testBit_eq
  intro i
  rw[Nat.testBit_xor]
  have e:(9223372036854775808:Nat)=2^63:=by decide
  rw[e,Nat.testBit_two_pow]
  rcases Nat.lt_trichotomy i 63 with hi | rfl | hi
  ·rw[Nat.testBit_two_pow_add_gt hi,decide_eq_false (by omega)];simp
  ·rw[Nat.testBit_two_pow_add_eq];simp
  ·rw[decide_eq_false (by omega)]
   have h1:y.testBit i=false:=Nat.testBit_lt_two_pow (Nat.lt_of_lt_of_le (by omega:y<2^64) (Nat.pow_le_pow_right (by decide) (by omega)))
   have h2:(2^63+y).testBit i=false:=Nat.testBit_lt_two_pow (Nat.lt_of_lt_of_le (by omega:2^63+y<2^64) (Nat.pow_le_pow_right (by decide) (by omega)))
   rw[h1,h2];rfl
 by_cases hu:u<9223372036854775808
 ·rw[low u hu,Nat.mod_eq_of_lt (by omega),Nat.add_comm]
 ·have e:=low (u - 9223372036854775808) (by omega)
  rw[show 9223372036854775808+(u - 9223372036854775808)=u by omega] at e
  conv=>lhs;rw[← e]
  rw[Nat.xor_assoc,Nat.xor_self,Nat.xor_zero]
  omega
theorem xor_turn {n:Int} (h:okInt n):((BitVec.ofInt 64 (n%18446744073709551616) ^^^ BitVec.ofInt 64 9223372036854775808).toNat:Int)=n+9223372036854775808:=by
 obtain⟨h1,h2⟩:=h
 obtain⟨u,hu⟩:∃u:Nat,n%18446744073709551616=u:=⟨(n%18446744073709551616).toNat,by omega⟩
 have hlt:u<18446744073709551616:=by omega
 rw[hu]
 have e1:BitVec.ofInt 64 (u:Int)=BitVec.ofNat 64 u:=BitVec.ofInt_natCast ..
 have e2:BitVec.ofInt 64 (9223372036854775808:Int)=BitVec.ofNat 64 9223372036854775808:=by rw[← BitVec.ofInt_natCast];rfl
 rw[e1,e2,BitVec.toNat_xor,BitVec.toNat_ofNat,BitVec.toNat_ofNat,Nat.mod_eq_of_lt (by omega),Nat.mod_eq_of_lt (by omega),xor_top u hlt]
 omega
theorem Wr.turn {n:Int} {K:Int→Prop} (h:okInt n) (hk:K (n+9223372036854775808)):Wr .u64 ((BitVec.ofInt 64 (n%18446744073709551616) ^^^ BitVec.ofInt 64 9223372036854775808).toNat:Int) K:=by
 rw[xor_turn h]
 exact Wr.u64 (by have:=h.1;omega) (by have:=h.2;omega) hk
def escK:List UInt8→List UInt8
 | []=>[]
 | b::l=>if b=0 then 0::255::escK l else b::escK l
theorem escK_append:∀a b:List UInt8,escK (a++b)=escK a++escK b
 | [],b=>rfl
 | x::a,b=>by
  rw[List.cons_append]
  show (if x=0 then 0::255::escK (a++b) else x::escK (a++b))=(if x=0 then 0::255::escK a else x::escK a)++escK b
  rw[escK_append a b]
  split<;>rfl
theorem escK_len:∀l:List UInt8,(escK l).length≤2*l.length
 | []=>by simp[escK]
 | b::l=>by
  have:=escK_len l
  unfold escK
  split<;>simp only[List.length_cons]<;>omega
def b8 (n:Int):List UInt8:=[by1 (n / 2^56),by1 (n / 2^48),by1 (n / 2^40),by1 (n / 2^32),by1 (n / 2^24),by1 (n / 2^16),by1 (n / 2^8),by1 n]
theorem b8_take (n:Int) {j:Nat} (h:j<8):(b8 n).take (j+1)=(b8 n).take j++[by1 (n / 2^(56 - 8*j))]:=by
 have:j=0∨j=1∨j=2∨j=3∨j=4∨j=5∨j=6∨j=7:=by omega
 rcases this with rfl | rfl | rfl | rfl | rfl | rfl | rfl | rfl
 all_goals first|rfl | (show _=_++[by1 (n / 2^0)];rw[show n / 2^0=n by simp];rfl)
def tagK (k:Int):UInt8:=if k=0 then 5 else if k=1 then 16 else if k=2 then 32 else 48
def kW (v:ValueD):List UInt8:=tagK v.Kind::(if v.Kind=0 then [] else if v.Kind=1 then b8 (v.N+9223372036854775808) else escK v.S++[0,1])
def keyW (l:List ValueD):List UInt8:=l.flatMap kW
theorem kW_len {v:ValueD} (h:vChk v=0):(kW v).length≤35:=by
 obtain⟨_,_,_,h4⟩:=vChk_inv h
 have:=escK_len v.S
 unfold kW
 rw[List.length_cons]
 (repeat' split)
 ·simp
 ·show 8+1≤35;omega
 ·rw[List.length_append];show _+2+1≤_;omega
theorem keyW_len:∀{l:List ValueD},(∀v∈l,vChk v=0)→(keyW l).length≤35*l.length
 | [],_=>by simp[keyW]
 | v::l,h=>by
  unfold keyW
  rw[List.flatMap_cons,List.length_append,List.length_cons]
  have h1:=kW_len (h v (List.mem_cons_self ..))
  have h2:=keyW_len (l:=l) fun x hx=>h x (List.mem_cons_of_mem _ hx)
  unfold keyW at h2
  omega
theorem key_snoc {l:List ValueD} {k:Nat} (h:k<l.length):keyW (l.take (k+1))=keyW (l.take k)++kW l[k]:=by
 unfold keyW
 rw[take_snoc h,List.flatMap_append];simp
def keyR (l:List ValueD):List UInt8:=if rowChk l=0 then keyW l else []
theorem p_key (l:List ValueD) (hl:l.length≤140737488355328) (hN:∀v∈l,okInt v.N):Pure Tryz.prog 37 [slV 3 ValueD.c l] (.tup [pStr (tx (keyR l)),pInt .i64 (rowChk l)]):=by
 have pc:=p_rowchk l hl
 refine pure_of Tryz.func37 (by rfl) rfl (by kernel_rfl) (by rfl) ?_
 unfold keyR
 by_cases h:rowChk l=0
 ·obtain⟨h8,hv⟩:=rowChk_ok h
  rw[if_pos h]
  rw[h] at pc ⊢
  ((conv=>whnf);repeat' ((first|(with_reducible first|apply a_|apply b_|apply c_)|((with_reducible first|apply d_|apply e_|apply f_|apply g_);focus first|omega|(simp only[q_]<;>omega))|((with_reducible first|apply i_|apply h_);focus first|omega|(simp only[q_]<;>omega))|((with_reducible apply h_);focus first|decide|kernel_rfl)|refine s_ (by decide) ?_|refine t_ (by decide) ?_|refine r_ pc rfl ?_|with_reducible first|apply l_|apply m_|apply n_|apply o_|refine p_ (fun _=>?_) (fun _=>?_))<;>(conv=>whnf)))
  refine LoopC.mk Nat (fun j=>[(5,.d (.app 60 tByte 1 (byteRows (keyW (l.take j))))),(16,slV 3 ValueD.c l),(17,pInt .i64 l.length),(18,pInt .i64 j)]) (fun j=>[(60,.tail tByte 1)]) [60] (fun j=>j≤l.length) (fun j=>l.length - j) 0 (Nat.zero_le _) ?start ?round
  case start=>exact⟨[],rfl,rfl,⟨⟨rfl,rfl,Nat.zero_lt_one,rfl,rfl⟩,.inl rfl,PLe.int (by simp),.inl rfl,trivial⟩,⟨rfl,Nat.zero_lt_one⟩,trivial⟩
  case round=>
   intro j hj
   by_cases h1:j<l.length
   ·have hm:=List.getElem_mem h1
    obtain⟨k1,k2,k3,k4⟩:=vChk_inv (hv _ hm)
    have hN1:=hN _ hm
    have hf:=keyW_len (l:=l.take j) fun v hx=>hv v (List.mem_of_mem_take hx)
    rw[List.length_take] at hf
    have hs:=key_snoc h1
    have hb:=bRows_length (keyW (l.take j))
    have hend:∀t:List UInt8,kW l[j]=t→byteRows (keyW (l.take (j+1)))=byteRows (keyW (l.take j))++byteRows t:=by
     rintro t rfl
     rw[hs,byteRows_append]
    generalize hx:l[j]=x at *
    obtain⟨kd,n,s⟩:=x
    simp only at k1 k2 k3 k4 hN1
    have kk:kd=0∨kd=1∨2≤kd:=by omega
    rcases kk with rfl | rfl | kk
    ·((conv=>whnf);repeat' ((first|(with_reducible first|apply a_|apply b_|apply c_)|((with_reducible first|apply d_|apply e_|apply f_|apply g_);focus first|omega|(simp only[q_]<;>omega))|((with_reducible first|apply i_|apply h_);focus first|omega|(simp only[q_]<;>omega))|((with_reducible apply h_);focus first|decide|kernel_rfl)|refine s_ (by decide) ?_|refine t_ (by decide) ?_|(refine Idx.mapE j rfl h1 hx ?_)|(refine DIdx.mk _ (by dsimp only;decide) rfl ?_)|(refine Need.by 1 rfl (by simp only[List.length_append,List.length_singleton,hb];omega) ?_)|with_reducible first|apply l_|apply m_|apply n_|apply o_|refine p_ (fun _=>?_) (fun _=>?_))<;>(conv=>whnf)))
     exact⟨j+1,by omega,by omega,[(60,28)],rfl,rfl,⟨⟨rfl,rfl,rfl,rfl,by rw[hend [5] rfl];rfl⟩,.inl rfl,.inl rfl,PLe.int (by omega),trivial⟩,⟨rfl,rfl,rfl⟩,trivial⟩
    ·have kw:kW ⟨1,n,s⟩=[16]++b8 (n+9223372036854775808):=rfl
     have hlo:=hN1.1
     have hhi:=hN1.2
     ((conv=>whnf);repeat' ((first|(with_reducible first|apply a_|apply b_|apply c_)|((with_reducible first|apply d_|apply e_|apply f_|apply g_);focus first|omega|(simp only[q_]<;>omega))|((with_reducible first|apply i_|apply h_);focus first|omega|(simp only[q_]<;>omega))|((with_reducible apply h_);focus first|decide|kernel_rfl)|refine s_ (by decide) ?_|refine t_ (by decide) ?_|(refine Idx.mapE j rfl h1 hx ?_)|(refine DIdx.mk _ (by dsimp only;decide) rfl ?_)|(refine Need.by 1 rfl (by simp only[List.length_append,List.length_singleton,hb];omega) ?_)|(refine Wr.turn hN1 ?_)|(refine Wr.u64w ?_)|with_reducible first|apply l_|apply m_|apply n_|apply o_|refine p_ (fun _=>?_) (fun _=>?_))<;>(conv=>whnf)))
     refine LoopC.mk Nat (fun i=>[(5,.d (.app 61 tByte 1 (byteRows (keyW (l.take j)++[16]++(b8 (n+9223372036854775808)).take i)))),(8,pInt .i64 (56 - 8*(i:Int))),(9,pInt .u64 (n+9223372036854775808)),(16,slV 3 ValueD.c l),(17,pInt .i64 l.length),(18,pInt .i64 j)]) (fun i=>[(61,.tail tByte 1)]) [61] (fun i=>i≤8) (fun i=>8 - i) 0 (Nat.zero_le _) ?_ ?_
     ·exact⟨[(61,28)],rfl,rfl,⟨⟨rfl,rfl,rfl,rfl,by show _=byteRows (_++[]);rw[List.append_nil,byteRows_append];rfl⟩,.inl rfl,.inl rfl,.inl rfl,PLe.int (by simp),.inl rfl,trivial⟩,⟨rfl,rfl,rfl⟩,trivial⟩
     ·intro i hi
      have hb2:=bRows_length (keyW (l.take j)++[16]++(b8 (n+9223372036854775808)).take i)
      simp only[List.length_append,List.length_singleton,List.length_take] at hb2
      have hb8:(b8 (n+9223372036854775808)).length=8:=rfl
      by_cases h2:i<8
      ·have hes:=b8_take (n+9223372036854775808) h2
       have hsh:(n+9223372036854775808).fdiv (2^min (56 - 8*(i:Int)).toNat 64)=(n+9223372036854775808) / 2^(56 - 8*i):=by
        rw[Int.fdiv_eq_ediv_of_nonneg _ (Int.pow_nonneg (by decide))]
        congr 2
        omega
       ((conv=>whnf);repeat' ((first|(with_reducible first|apply a_|apply b_|apply c_)|((with_reducible first|apply d_|apply e_|apply f_|apply g_);focus first|omega|(simp only[q_]<;>omega))|((with_reducible first|apply i_|apply h_);focus first|omega|(simp only[q_]<;>omega))|((with_reducible apply h_);focus first|decide|kernel_rfl)|refine s_ (by decide) ?_|refine t_ (by decide) ?_|(refine Need.by 1 rfl (by simp only[List.length_append,List.length_singleton,hb2];omega) ?_)|with_reducible first|apply l_|apply m_|apply n_|apply o_|refine p_ (fun _=>?_) (fun _=>?_))<;>(conv=>whnf)))
       refine⟨i+1,by omega,by omega,[(61,49)],rfl,rfl,⟨⟨rfl,rfl,rfl,rfl,?_⟩,PLe.int (by omega),.inl rfl,.inl rfl,.inl rfl,.inl rfl,trivial⟩,⟨rfl,rfl,rfl⟩,trivial⟩
       rw[hes,← hsh]
       simp only[byteRows_append,List.append_assoc];rfl
      ·((conv=>whnf);repeat' ((first|(with_reducible first|apply a_|apply b_|apply c_)|((with_reducible first|apply d_|apply e_|apply f_|apply g_);focus first|omega|(simp only[q_]<;>omega))|((with_reducible first|apply i_|apply h_);focus first|omega|(simp only[q_]<;>omega))|((with_reducible apply h_);focus first|decide|kernel_rfl)|refine s_ (by decide) ?_|refine t_ (by decide) ?_|with_reducible first|apply l_|apply m_|apply n_|apply o_|refine p_ (fun _=>?_) (fun _=>?_))<;>(conv=>whnf)))
       refine⟨j+1,by omega,by omega,[(60,61)],rfl,rfl,⟨⟨rfl,rfl,rfl,rfl,?_⟩,.inl rfl,.inl rfl,PLe.int (by omega),trivial⟩,⟨rfl,rfl,rfl⟩,trivial⟩
       rw[hend _ kw,List.take_of_length_le (l:=b8 _) (by rw[hb8];omega)]
       simp only[byteRows_append,List.append_assoc]
    ·have kt:kd=2∨kd=3:=by omega
     have htag:∃tg:UInt8,tagK kd=tg∧((kd=2∧tg=32)∨(kd=3∧tg=48)):=⟨_,rfl,by rcases kt with rfl | rfl<;>simp[tagK]⟩
     obtain⟨tg,ht1,ht2⟩:=htag
     have kw:kW ⟨kd,n,s⟩=[tg]++(escK s++[0,1]):=by
      unfold kW
      rw[if_neg (show ¬kd=0 by omega),if_neg (show ¬kd=1 by omega),ht1];rfl
     have di:∀{K:D→Prop},K (.c (.v (.int .u8 (tg.toNat:Int))))→DIdx [D.c (C.v (.int .u8 5)),D.c (C.v (.int .u8 16)),D.c (C.v (.int .u8 32)),D.c (C.v (.int .u8 48))] kd K:=fun h=>by
      rcases ht2 with ⟨rfl,rfl⟩ | ⟨rfl,rfl⟩
      ·exact⟨_,by decide,rfl,h⟩
      ·exact⟨_,by decide,rfl,h⟩
     have tz:=tx_size s
     ((conv=>whnf);repeat' ((first|(with_reducible first|apply a_|apply b_|apply c_)|((with_reducible first|apply d_|apply e_|apply f_|apply g_);focus first|omega|(simp only[q_]<;>omega))|((with_reducible first|apply i_|apply h_);focus first|omega|(simp only[q_]<;>omega))|((with_reducible apply h_);focus first|decide|kernel_rfl)|refine s_ (by decide) ?_|refine t_ (by decide) ?_|(refine Idx.mapE j rfl h1 hx ?_)|(refine di ?_)|(refine Need.by 1 rfl (by simp only[List.length_append,List.length_singleton,hb];omega) ?_)|with_reducible first|apply l_|apply m_|apply n_|apply o_|refine p_ (fun _=>?_) (fun _=>?_))<;>(conv=>whnf)))
     all_goals
      refine LoopC.mk Nat (fun i=>[(5,.d (.app 61 tByte 1 (byteRows (keyW (l.take j)++[tg]++escK (s.take i))))),(7,.d (.ptr 7 0)),(10,pInt .i64 i),(16,slV 3 ValueD.c l),(17,pInt .i64 l.length),(18,pInt .i64 j)]) (fun i=>[(61,.tail tByte 1),(7,.box tVal ((ValueD.mk kd n s).c.map D.c))]) [61,7] (fun i=>i≤s.length) (fun i=>s.length - i) 0 (Nat.zero_le _) ?_ ?_
      ·exact⟨[(61,28),(7,7)],rfl,rfl,⟨⟨rfl,rfl,rfl,rfl,by show _=byteRows (_++[]);rw[List.append_nil,byteRows_append];rfl⟩,⟨rfl,rfl,rfl⟩,.inl rfl,.inl rfl,PLe.int (by simp),.inl rfl,trivial⟩,⟨rfl,rfl,rfl⟩,⟨rfl,rfl,.inl rfl,.inl rfl,.inl rfl,rfl⟩,trivial⟩
      ·intro i hi
       have he:=escK_len (s.take i)
       rw[List.length_take] at he
       have hb2:=bRows_length (keyW (l.take j)++[tg]++escK (s.take i))
       simp only[List.length_append,List.length_singleton] at hb2
       by_cases h2:i<s.length
       ·have hes:escK (s.take (i+1))=escK (s.take i)++(if s.getD i 0=0 then [0,255] else [s.getD i 0]):=by
         rw[take_snoc h2,escK_append,List.getD_eq_getElem?_getD,List.getElem?_eq_getElem h2]
         show _++(if s[i]=0 then 0::255::[] else s[i]::[])=_
         rfl
        by_cases hz:s.getD i 0=0
        ·rw[if_pos hz] at hes
         have hz':((s.getD i 0).toNat:Int)=0:=by rw[hz];rfl
         ((conv=>whnf);repeat' ((first|(with_reducible first|apply a_|apply b_|apply c_)|((with_reducible first|apply d_|apply e_|apply f_|apply g_);focus first|omega|(simp only[q_]<;>omega))|((with_reducible first|apply i_|apply h_);focus first|omega|(simp only[q_]<;>omega))|((with_reducible apply h_);focus first|decide|kernel_rfl)|refine s_ (by decide) ?_|refine t_ (by decide) ?_|(refine SIdx.tx i rfl h2 ?_)|(refine BCase.dt hz' ?_)|(refine Need.by 1 rfl (by simp only[List.length_append,List.length_singleton,hb2];omega) ?_)|with_reducible first|apply l_|apply m_|apply n_|apply o_|refine p_ (fun _=>?_) (fun _=>?_))<;>(conv=>whnf)))
         refine⟨i+1,by omega,by omega,[(61,71),(7,7)],rfl,rfl,⟨⟨rfl,rfl,rfl,rfl,?_⟩,⟨rfl,rfl,rfl⟩,PLe.int (by omega),.inl rfl,.inl rfl,.inl rfl,trivial⟩,⟨rfl,rfl,rfl⟩,⟨rfl,rfl,.inl rfl,.inl rfl,.inl rfl,rfl⟩,trivial⟩
         rw[hes,hz']
         simp only[byteRows_append,List.append_assoc];rfl
        ·rw[if_neg hz] at hes
         have hz':¬((s.getD i 0).toNat:Int)=0:=fun e=>hz (u8_eq.1 e)
         ((conv=>whnf);repeat' ((first|(with_reducible first|apply a_|apply b_|apply c_)|((with_reducible first|apply d_|apply e_|apply f_|apply g_);focus first|omega|(simp only[q_]<;>omega))|((with_reducible first|apply i_|apply h_);focus first|omega|(simp only[q_]<;>omega))|((with_reducible apply h_);focus first|decide|kernel_rfl)|refine s_ (by decide) ?_|refine t_ (by decide) ?_|(refine SIdx.tx i rfl h2 ?_)|(refine BCase.df hz' ?_)|(refine Need.by 1 rfl (by simp only[List.length_append,List.length_singleton,hb2];omega) ?_)|with_reducible first|apply l_|apply m_|apply n_|apply o_|refine p_ (fun _=>?_) (fun _=>?_))<;>(conv=>whnf)))
         refine⟨i+1,by omega,by omega,[(61,63),(7,7)],rfl,rfl,⟨⟨rfl,rfl,rfl,rfl,?_⟩,⟨rfl,rfl,rfl⟩,PLe.int (by omega),.inl rfl,.inl rfl,.inl rfl,trivial⟩,⟨rfl,rfl,rfl⟩,⟨rfl,rfl,.inl rfl,.inl rfl,.inl rfl,rfl⟩,trivial⟩
         rw[hes]
         simp only[byteRows_append,List.append_assoc];rfl
       ·((conv=>whnf);repeat' ((first|(with_reducible first|apply a_|apply b_|apply c_)|((with_reducible first|apply d_|apply e_|apply f_|apply g_);focus first|omega|(simp only[q_]<;>omega))|((with_reducible first|apply i_|apply h_);focus first|omega|(simp only[q_]<;>omega))|((with_reducible apply h_);focus first|decide|kernel_rfl)|refine s_ (by decide) ?_|refine t_ (by decide) ?_|(refine Need.by 1 rfl (by simp only[List.length_append,List.length_singleton,List.length_cons,List.length_nil,hb2];omega) ?_)|with_reducible first|apply l_|apply m_|apply n_|apply o_|refine p_ (fun _=>?_) (fun _=>?_))<;>(conv=>whnf)))
        refine⟨j+1,by omega,by omega,[(60,74)],rfl,rfl,⟨⟨rfl,rfl,rfl,rfl,?_⟩,.inl rfl,.inl rfl,PLe.int (by omega),trivial⟩,⟨rfl,rfl,rfl⟩,trivial⟩
        rw[hend _ kw,List.take_of_length_le (l:=s) (by omega)]
        simp only[byteRows_append,List.append_assoc];rfl
   ·((conv=>whnf);repeat' ((first|(with_reducible first|apply a_|apply b_|apply c_)|((with_reducible first|apply d_|apply e_|apply f_|apply g_);focus first|omega|(simp only[q_]<;>omega))|((with_reducible first|apply i_|apply h_);focus first|omega|(simp only[q_]<;>omega))|((with_reducible apply h_);focus first|decide|kernel_rfl)|refine s_ (by decide) ?_|refine t_ (by decide) ?_|with_reducible first|apply l_|apply m_|apply n_|apply o_|refine p_ (fun _=>?_) (fun _=>?_))<;>(conv=>whnf)))
    refine Bytes.mk' ?_
    ((conv=>whnf);repeat' ((first|(with_reducible first|apply a_|apply b_|apply c_)|((with_reducible first|apply d_|apply e_|apply f_|apply g_);focus first|omega|(simp only[q_]<;>omega))|((with_reducible first|apply i_|apply h_);focus first|omega|(simp only[q_]<;>omega))|((with_reducible apply h_);focus first|decide|kernel_rfl)|refine s_ (by decide) ?_|refine t_ (by decide) ?_|with_reducible first|apply l_|apply m_|apply n_|apply o_|refine p_ (fun _=>?_) (fun _=>?_))<;>(conv=>whnf)))
    refine Ret.mk ?_
    rw[List.take_of_length_le (by omega)];rfl
 ·rw[if_neg h]
  ((conv=>whnf);repeat' ((first|(with_reducible first|apply a_|apply b_|apply c_)|((with_reducible first|apply d_|apply e_|apply f_|apply g_);focus first|omega|(simp only[q_]<;>omega))|((with_reducible first|apply i_|apply h_);focus first|omega|(simp only[q_]<;>omega))|((with_reducible apply h_);focus first|decide|kernel_rfl)|refine s_ (by decide) ?_|refine t_ (by decide) ?_|refine r_ pc rfl ?_|with_reducible first|apply l_|apply m_|apply n_|apply o_|refine p_ (fun _=>?_) (fun _=>?_))<;>(conv=>whnf)))
  exact Ret.mk rfl
end
section
open Go.RowKit K
set_option maxRecDepth 100000
set_option maxRecDepth 100000
def putS (seen:List (List UInt8)) (s:List UInt8):List (List UInt8):=if s∈seen then seen else seen++[s]
theorem s_distinct1 (row:RowT) (hr:row.length≤1000) (hN:∀v∈row,okInt v.N) (seen:List (List UInt8)) (T:Nat):CallS Tryz.prog 36 [slV 3 ValueD.c row,.d (.ptr FK 0)] [(FK,.box T [.mp FK1])] [(FK1,.mp (nmap seen))] (.tup [pBool (!decide (keyR row∈seen)),pInt .i64 (rowChk row)]) [(FK1,.mp (nmap (putS seen (keyR row))))]:=by
 have pk:=p_key row (by omega) hN
 refine callS_of Tryz.func36 (by rfl) rfl (by kernel_rfl) (by rfl) [FK,FK1] rfl ?_
 ((conv=>whnf);repeat' ((first|(with_reducible first|apply a_|apply b_|apply c_)|((with_reducible first|apply d_|apply e_|apply f_|apply g_);focus first|omega|(simp only[q_]<;>omega))|((with_reducible first|apply i_|apply h_);focus first|omega|(simp only[q_]<;>omega))|((with_reducible apply h_);focus first|decide|kernel_rfl)|refine s_ (by decide) ?_|refine t_ (by decide) ?_|refine r_ pk rfl ?_|(refine Need.mk ⟨rfl,nmap_plain seen⟩ ?_)|with_reducible first|apply l_|apply m_|apply n_|apply o_|refine p_ (fun _=>?_) (fun _=>?_))<;>(conv=>whnf)))
 refine⟨fun v hv=>?_,fun hv=>?_⟩
 ·rw[mpGet_nmap] at hv
  by_cases h:keyR row∈seen
  ·rw[if_pos h] at hv
   cases hv
   ((conv=>whnf);repeat' ((first|(with_reducible first|apply a_|apply b_|apply c_)|((with_reducible first|apply d_|apply e_|apply f_|apply g_);focus first|omega|(simp only[q_]<;>omega))|((with_reducible first|apply i_|apply h_);focus first|omega|(simp only[q_]<;>omega))|((with_reducible apply h_);focus first|decide|kernel_rfl)|refine s_ (by decide) ?_|refine t_ (by decide) ?_|with_reducible first|apply l_|apply m_|apply n_|apply o_|refine p_ (fun _=>?_) (fun _=>?_))<;>(conv=>whnf)))
   refine RetS.mk [(FK,FK),(FK1,FK1)] [FK,FK1] rfl rfl ?_ ?_
   ·exact⟨PLe.bool (by simp[h]),.inl rfl,rfl⟩
   ·refine⟨?_,⟨rfl,by unfold putS;rw[if_pos h];show mpPut _ _ _=_;rw[mpPut_nmap,if_pos h]⟩,trivial⟩<;>repeat' (first|exact rfl|exact trivial|exact Or.inl rfl|refine And.intro ?_ ?_)
  ·rw[if_neg h] at hv;cases hv
 ·rw[mpGet_nmap] at hv
  by_cases h:keyR row∈seen
  ·rw[if_pos h] at hv;cases hv
  ·((conv=>whnf);repeat' ((first|(with_reducible first|apply a_|apply b_|apply c_)|((with_reducible first|apply d_|apply e_|apply f_|apply g_);focus first|omega|(simp only[q_]<;>omega))|((with_reducible first|apply i_|apply h_);focus first|omega|(simp only[q_]<;>omega))|((with_reducible apply h_);focus first|decide|kernel_rfl)|refine s_ (by decide) ?_|refine t_ (by decide) ?_|with_reducible first|apply l_|apply m_|apply n_|apply o_|refine p_ (fun _=>?_) (fun _=>?_))<;>(conv=>whnf)))
   refine RetS.mk [(FK,FK),(FK1,FK1)] [FK,FK1] rfl rfl ?_ ?_
   ·exact⟨PLe.bool (by simp[h]),.inl rfl,rfl⟩
   ·refine⟨?_,⟨rfl,by unfold putS;rw[if_neg h];show mpPut _ _ _=_;rw[mpPut_nmap,if_neg h]⟩,trivial⟩<;>repeat' (first|exact rfl|exact trivial|exact Or.inl rfl|refine And.intro ?_ ?_)
def distK:List (List UInt8)→List RowT→List RowT
 | _,[]=>[]
 | seen,r::l=>if keyR r∈seen then distK seen l else r::distK (seen++[keyR r]) l
def seenK (seen:List (List UInt8)) (l:List RowT):List (List UInt8):=l.foldl (fun s r=>putS s (keyR r)) seen
theorem seenK_snoc {seen:List (List UInt8)} {l:List RowT} {k:Nat} (h:k<l.length):seenK seen (l.take (k+1))=putS (seenK seen (l.take k)) (keyR l[k]):=by
 unfold seenK
 rw[take_snoc h,List.foldl_append];rfl
theorem distK_snoc:∀(l:List RowT) (seen:List (List UInt8)) (r:RowT),distK seen (l++[r])=distK seen l++(if keyR r∈seenK seen l then [] else [r])
 | [],seen,r=>by
  show distK seen [r]=_
  rw[distK,distK]
  show _=[]++if keyR r∈seen then [] else [r]
  split<;>simp[distK]
 | x::l,seen,r=>by
  rw[List.cons_append,distK,distK]
  have e:seenK seen (x::l)=seenK (putS seen (keyR x)) l:=rfl
  rw[e]
  unfold putS
  by_cases h:keyR x∈seen
  ·rw[if_pos h,if_pos h,if_pos h,distK_snoc l seen r]
  ·rw[if_neg h,if_neg h,if_neg h,distK_snoc l _ r];rfl
theorem s_kept_dist (l:List RowT) (hl:l.length≤1000) (hr:∀r∈l,r.length≤1000∧(∀v∈r,okInt v.N)∧rowChk r=0) (T:Nat):CallS Tryz.prog 35 [rwsV l,.d (.clo 36 [] [.ptr FK 0])] [(FK,.box T [.mp FK1])] [(FK1,.mp (nmap []))] (.tup [rwsV (distK [] l),pInt .i64 0]) [(FK1,.mp (nmap (seenK [] l)))]:=by
 refine callS_of Tryz.func35 (by rfl) rfl (by kernel_rfl) (by rfl) [FK,FK1] rfl ?_
 ((conv=>whnf);repeat' ((first|(with_reducible first|apply a_|apply b_|apply c_)|((with_reducible first|apply d_|apply e_|apply f_|apply g_);focus first|omega|(simp only[q_]<;>omega))|((with_reducible first|apply i_|apply h_);focus first|omega|(simp only[q_]<;>omega))|((with_reducible apply h_);focus first|decide|kernel_rfl)|refine s_ (by decide) ?_|refine t_ (by decide) ?_|with_reducible first|apply l_|apply m_|apply n_|apply o_|refine p_ (fun _=>?_) (fun _=>?_))<;>(conv=>whnf)))
 refine LoopC.mk Nat (fun k=>[(1,.d (.clo 36 [] [.ptr FK 0])),(6,.d (.app 60 33 1 ((distK [] (l.take k)).map rowC))),(11,rwsV l),(12,pInt .i64 l.length),(13,pInt .i64 (k:Int))]) (fun k=>[(FK,.box T [.mp FK1]),(FK1,.mp (nmap (seenK [] (l.take k)))),(60,.tail 33 1)]) [FK,FK1,60] (fun k=>k≤l.length∧(distK [] (l.take k)).length≤k) (fun k=>l.length - k) 0 ⟨Nat.zero_le _,by rw[List.take_zero];exact Nat.le_refl _⟩ ?start ?round
 case start=>
  refine⟨[(FK,FK),(FK1,FK1)],rfl,rfl,?_,?_⟩<;>repeat' (first|exact rfl|exact trivial|exact Or.inl rfl|exact Nat.zero_lt_succ _|refine And.intro ?_ ?_)
  all_goals exact PLe.int (by simp)
 case round=>
  rintro k ⟨hk,hdl⟩
  have hk:k≤l.length:=hk
  have hdl:(distK [] (l.take k)).length≤k:=hdl
  by_cases q:k<l.length
  ·obtain⟨h1,h2,h3⟩:=hr _ (List.getElem_mem q)
   have pf:=s_distinct1 l[k] h1 h2 (seenK [] (l.take k)) T
   have pc:=p_cloneV l[k] (by omega)
   rw[h3] at pf
   have hs:=seenK_snoc (seen:=[]) q
   have hd:distK [] (l.take (k+1))=distK [] (l.take k)++(if keyR l[k]∈seenK [] (l.take k) then [] else [l[k]]):=by rw[take_snoc q];exact distK_snoc _ _ _
   by_cases h:keyR l[k]∈seenK [] (l.take k)
   ·rw[if_pos h,List.append_nil] at hd
    have hb:(!decide (keyR l[k]∈seenK [] (l.take k)))=false:=by simp[h]
    rw[hb] at pf
    ((conv=>whnf);repeat' ((first|(with_reducible first|apply a_|apply b_|apply c_)|((with_reducible first|apply d_|apply e_|apply f_|apply g_);focus first|omega|(simp only[q_]<;>omega))|((with_reducible first|apply i_|apply h_);focus first|omega|(simp only[q_]<;>omega))|((with_reducible apply h_);focus first|decide|kernel_rfl)|refine s_ (by decide) ?_|refine t_ (by decide) ?_|(refine Idx.mapI (f:=rowC) k rfl q ?_)|(refine CallP.ret [(FK,FK),(FK1,FK1)] _ _ _ _ _ _ _ pf rfl rfl rfl rfl ⟨rfl,rfl,trivial⟩ ?_)|refine r_ pc rfl ?_|(refine Need.by 24 rfl (by simp only[List.length_map,List.length_singleton];omega) ?_)|with_reducible first|apply l_|apply m_|apply n_|apply o_|refine p_ (fun _=>?_) (fun _=>?_))<;>(conv=>whnf)))
    all_goals first
     | (exfalso;omega)
     | skip
    refine⟨k+1,⟨by show k+1≤_;omega,by rw[hd];omega⟩,by show l.length - (k+1)<l.length - k;omega,[(FK,FK),(FK1,FK1),(60,60)],rfl,rfl,?_,?_⟩<;>repeat' (first|exact rfl|exact trivial|exact Or.inl rfl|exact (show _=(distK [] (l.take (k+1))).map rowC by rw[hd]) | exact (show _=nmap (seenK [] (l.take (k+1))) by rw[hs]) | refine And.intro ?_ ?_)
    all_goals first|exact PLe.int (by simp) | exact PLe.int (by omega)
   ·rw[if_neg h] at hd
    have hb:(!decide (keyR l[k]∈seenK [] (l.take k)))=true:=by simp[h]
    rw[hb] at pf
    ((conv=>whnf);repeat' ((first|(with_reducible first|apply a_|apply b_|apply c_)|((with_reducible first|apply d_|apply e_|apply f_|apply g_);focus first|omega|(simp only[q_]<;>omega))|((with_reducible first|apply i_|apply h_);focus first|omega|(simp only[q_]<;>omega))|((with_reducible apply h_);focus first|decide|kernel_rfl)|refine s_ (by decide) ?_|refine t_ (by decide) ?_|(refine Idx.mapI (f:=rowC) k rfl q ?_)|(refine CallP.ret [(FK,FK),(FK1,FK1)] _ _ _ _ _ _ _ pf rfl rfl rfl rfl ⟨rfl,rfl,trivial⟩ ?_)|refine r_ pc rfl ?_|(refine Need.by 24 rfl (by simp only[List.length_map,List.length_singleton];omega) ?_)|with_reducible first|apply l_|apply m_|apply n_|apply o_|refine p_ (fun _=>?_) (fun _=>?_))<;>(conv=>whnf)))
    all_goals first
     | (exfalso;omega)
     | skip
    refine⟨k+1,⟨by show k+1≤_;omega,by rw[hd,List.length_append,List.length_singleton];omega⟩,by show l.length - (k+1)<l.length - k;omega,[(FK,FK),(FK1,FK1),(60,31)],rfl,rfl,?_,?_⟩<;>repeat' (first|exact rfl|exact trivial|exact Or.inl rfl|exact (show _=(distK [] (l.take (k+1))).map rowC by rw[hd,List.map_append];rfl) | exact (show _=nmap (seenK [] (l.take (k+1))) by rw[hs]) | refine And.intro ?_ ?_)
    all_goals first|exact PLe.int (by simp) | exact PLe.int (by omega)
  ·have e1:l.take k=l:=List.take_of_length_le (by omega)
   rw[e1]
   ((conv=>whnf);repeat' ((first|(with_reducible first|apply a_|apply b_|apply c_)|((with_reducible first|apply d_|apply e_|apply f_|apply g_);focus first|omega|(simp only[q_]<;>omega))|((with_reducible first|apply i_|apply h_);focus first|omega|(simp only[q_]<;>omega))|((with_reducible apply h_);focus first|decide|kernel_rfl)|refine s_ (by decide) ?_|refine t_ (by decide) ?_|with_reducible first|apply l_|apply m_|apply n_|apply o_|refine p_ (fun _=>?_) (fun _=>?_))<;>(conv=>whnf)))
   all_goals first
    | (exfalso;omega)
    | (refine RetS.mk [(FK,FK),(FK1,FK1)] [FK,FK1] rfl rfl ?_ ?_<;>repeat' (first|exact rfl|exact trivial|exact Or.inl rfl|exact Or.inr ⟨⟨1,rfl⟩,.inl rfl⟩ | refine And.intro ?_ ?_))
def distF (l:List RowT):List RowT×Int:=if rowsChk l≠0 then ([],rowsChk l) else (distK [] l,0)
theorem p_Distinct (l:List RowT) (hN:∀r∈l,∀v∈r,okInt v.N):Pure Tryz.prog 14 [rwsV l] (.tup [rwsV (distF l).1,pInt .i64 (distF l).2]):=by
 have pc:=p_bagcheck l
 refine pure_of Tryz.func14 (by rfl) rfl (by kernel_rfl) (by rfl) ?_
 unfold distF
 by_cases h1:rowsChk l=0
 ·rw[if_neg (not_not_intro h1)]
  rw[h1] at pc
  obtain⟨h40,h8⟩:=rowsChk_ok.1 h1
  have pk (T:Nat):=s_kept_dist l (by omega) (fun r hr=>⟨by have:=(h8 r hr).1;omega,hN r hr,by unfold rowChk;rw[if_neg (by have:=(h8 r hr).1;omega)];exact (h8 r hr).2.2⟩) T
  ((conv=>whnf);repeat' ((first|(with_reducible first|apply a_|apply b_|apply c_)|((with_reducible first|apply d_|apply e_|apply f_|apply g_);focus first|omega|(simp only[q_]<;>omega))|((with_reducible first|apply i_|apply h_);focus first|omega|(simp only[q_]<;>omega))|((with_reducible apply h_);focus first|decide|kernel_rfl)|refine s_ (by decide) ?_|refine t_ (by decide) ?_|refine r_ pc rfl ?_|(refine CallP.ret [(FK,5),(FK1,11)] _ _ _ _ _ _ _ (pk _) rfl rfl rfl rfl ⟨rfl,rfl,trivial⟩ ?_)|with_reducible first|apply l_|apply m_|apply n_|apply o_|refine p_ (fun _=>?_) (fun _=>?_))<;>(conv=>whnf)))
  all_goals first|exact Ret.eq rfl | (exfalso;omega) | skip
 ·rw[if_pos h1]
  ((conv=>whnf);repeat' ((first|(with_reducible first|apply a_|apply b_|apply c_)|((with_reducible first|apply d_|apply e_|apply f_|apply g_);focus first|omega|(simp only[q_]<;>omega))|((with_reducible first|apply i_|apply h_);focus first|omega|(simp only[q_]<;>omega))|((with_reducible apply h_);focus first|decide|kernel_rfl)|refine s_ (by decide) ?_|refine t_ (by decide) ?_|refine r_ pc rfl ?_|with_reducible first|apply l_|apply m_|apply n_|apply o_|refine p_ (fun _=>?_) (fun _=>?_))<;>(conv=>whnf)))
  all_goals first|exact Ret.le ⟨.inr ⟨⟨1,rfl⟩,.inl rfl⟩,.inl rfl,rfl⟩ | (exfalso;omega)
end
section
open Go.RowKit K
set_option maxRecDepth 100000
set_option maxRecDepth 100000
def distR (l:List RowT):Nat→List RowT
 | 0=>[]
 | k+1=>distR l k++(match l[k]? with | some r=>if howF (l.take k) r=0 then [r] else [] | none=>[])
theorem distR_succ {l:List RowT} {k:Nat} (h:k<l.length):distR l (k+1)=distR l k++(if howF (l.take k) l[k]=0 then [l[k]] else []):=by
 rw[distR,List.getElem?_eq_getElem h]
theorem distR_len (l:List RowT):∀k,(distR l k).length≤k
 | 0=>Nat.le_refl _
 | k+1=>by
  have:=distR_len l k
  rw[distR,List.length_append]
  split
  ·split<;>simp<;>omega
  ·simp;omega
end
section
open Go.RowKit K NumP NumW NumRd NumZ NumL
set_option maxRecDepth 100000
def unb:List UInt8→Option (List UInt8×List UInt8)
 | []=>none
 | [_]=>none
 | a::b::r=>if a≠0 then (match unb (b::r) with | some (t,q)=>some (a::t,q) | none=>none)
  else if b=1 then some ([],r) else if b=255 then (match unb r with | some (t,q)=>some (0::t,q) | none=>none) else none
theorem unb_two (a b:UInt8) (r:List UInt8):unb (a::b::r)=if a≠0 then (match unb (b::r) with | some (t,q)=>some (a::t,q) | none=>none)
  else if b=1 then some ([],r) else if b=255 then (match unb r with | some (t,q)=>some (0::t,q) | none=>none) else none:=by
 conv=>lhs;unfold unb
def unbR (l:List UInt8):List UInt8×List UInt8×Bool:=match unb l with
 | some (t,q)=>(t,q,true)
 | none=>([],[],false)
def fold8:Nat→List UInt8→Nat
 | n,[]=>n
 | n,b::l=>fold8 (n*256+b.toNat) l
def dec8 (l:List UInt8):Int:=(fold8 0 l:Int) - 9223372036854775808
def unkR:List UInt8→ValueD×List UInt8×Bool
 | []=>(z0,[],false)
 | tag::r=>
  if tag=5 then (z0,r,true)
  else if tag=16 then (if r.length<8 then (z0,[],false) else (⟨1,dec8 (r.take 8),[]⟩,r.drop 8,true))
  else if tag=32 then (⟨2,0,(unbR r).1⟩,(unbR r).2.1,(unbR r).2.2)
  else if tag=48 then (⟨3,0,(unbR r).1⟩,(unbR r).2.1,(unbR r).2.2)
  else (z0,[],false)
theorem unkR_cons (tag:UInt8) (r:List UInt8):unkR (tag::r) =
  if tag=5 then (z0,r,true)
  else if tag=16 then (if r.length<8 then (z0,[],false) else (⟨1,dec8 (r.take 8),[]⟩,r.drop 8,true))
  else if tag=32 then (⟨2,0,(unbR r).1⟩,(unbR r).2.1,(unbR r).2.2)
  else if tag=48 then (⟨3,0,(unbR r).1⟩,(unbR r).2.1,(unbR r).2.2)
  else (z0,[],false):=rfl
def ukGo:Nat→List ValueD→List UInt8→List ValueD×Int
 | 0,out,_=>(out,0)
 | f+1,out,s=>if s=[] then (out,0) else if out.length=8 then ([],2) else if (unkR s).2.2=false then ([],1) else if 16<(unkR s).1.S.length then ([],2) else ukGo f (out++[(unkR s).1]) (unkR s).2.1
def ukR (l:List UInt8):List ValueD×Int:=ukGo 9 [] l
end
section
open Go.RowKit K NumP NumW NumRd NumZ NumL
set_option maxRecDepth 100000
end
section
open Go.RowKit K NumP NumW NumRd NumZ NumL
set_option maxRecDepth 100000
theorem unb_back:∀(t q:List UInt8),unb (escK t++0::1::q)=some (t,q)
 | [],q=>by
  show unb (0::1::q)=_
  rw[unb_two,if_neg (by decide),if_pos rfl]
 | b::t,q=>by
  have ih:=unb_back t q
  show unb ((if b=0 then 0::255::escK t else b::escK t)++0::1::q)=_
  by_cases hb:b=0
  ·rw[if_pos hb]
   show unb (0::255::(escK t++0::1::q))=_
   rw[unb_two,if_neg (by decide),if_neg (by decide),if_pos rfl,ih,hb]
  ·rw[if_neg hb]
   show unb (b::(escK t++0::1::q))=_
   cases h:escK t++0::1::q with
   | nil=>simp at h
   | cons c r=>
    rw[unb_two,if_pos hb,← h,ih]
theorem b8_fold (n:Nat) (h:n<18446744073709551616):fold8 0 (b8 (n:Int))=n:=by
 have e:∀k:Int,((by1 k).toNat:Int)=k%256:=by1_int
 have h0:=e ((n:Int) / 2^56)
 have h1:=e ((n:Int) / 2^48)
 have h2:=e ((n:Int) / 2^40)
 have h3:=e ((n:Int) / 2^32)
 have h4:=e ((n:Int) / 2^24)
 have h5:=e ((n:Int) / 2^16)
 have h6:=e ((n:Int) / 2^8)
 have h7:=e (n:Int)
 simp only[fold8,b8]
 simp only[show (2:Int)^56=72057594037927936 from rfl,show (2:Int)^48=281474976710656 from rfl,show (2:Int)^40=1099511627776 from rfl,show (2:Int)^32=4294967296 from rfl,show (2:Int)^24=16777216 from rfl,show (2:Int)^16=65536 from rfl,show (2:Int)^8=256 from rfl] at *
 omega
theorem dec8_b8 {n:Int} (h:okInt n):dec8 (b8 (n+9223372036854775808))=n:=by
 obtain⟨u,hu⟩:∃u:Nat,n+9223372036854775808=u:=⟨(n+9223372036854775808).toNat,by have:=h.1;omega⟩
 have:=h.2
 unfold dec8
 rw[hu,b8_fold u (by omega)]
 omega
theorem unkR_back {v:ValueD} (h:vChk v=0) (hN:okInt v.N) (q:List UInt8):unkR (kW v++q)=(v,q,true):=by
 obtain⟨k1,k2,k3,k4⟩:=vChk_inv h
 obtain⟨kd,n,s⟩:=v
 simp only at k1 k2 k3 k4 hN
 have kk:kd=0∨kd=1∨kd=2∨kd=3:=by omega
 rcases kk with rfl | rfl | rfl | rfl
 ·rw[k2 (by decide),k3 (by decide)];rfl
 ·rw[k3 (by decide)]
  show unkR (16::(b8 (n+9223372036854775808)++q))=_
  rw[unkR_cons,if_neg (by decide),if_pos rfl,if_neg (by rw[List.length_append];show ¬8+_<8;omega)]
  have l8:(b8 (n+9223372036854775808)).length=8:=rfl
  rw[List.take_left' l8,List.drop_left' l8,dec8_b8 hN]
 ·rw[k2 (by decide)]
  show unkR (32::(escK s++[0,1]++q))=_
  rw[unkR_cons,if_neg (by decide),if_neg (by decide),if_pos rfl]
  have e:unbR (escK s++[0,1]++q)=(s,q,true):=by unfold unbR;rw[List.append_assoc];show (match unb (escK s++0::1::q) with | some (t,q)=>(t,q,true) | none=>([],[],false))=_;rw[unb_back]
  rw[e]
 ·rw[k2 (by decide)]
  show unkR (48::(escK s++[0,1]++q))=_
  rw[unkR_cons,if_neg (by decide),if_neg (by decide),if_neg (by decide),if_pos rfl]
  have e:unbR (escK s++[0,1]++q)=(s,q,true):=by unfold unbR;rw[List.append_assoc];show (match unb (escK s++0::1::q) with | some (t,q)=>(t,q,true) | none=>([],[],false))=_;rw[unb_back]
  rw[e]
theorem kW_ne (v:ValueD):kW v≠[]:=by unfold kW;simp
theorem ukGo_back:∀(l out:List ValueD),(∀v∈l,vChk v=0)→(∀v∈l,okInt v.N)→out.length+l.length≤8→ukGo (9 - out.length) out (keyW l)=(out++l,0)
 | [],out,_,_,hl=>by
  rw[show 9 - out.length=(8 - out.length)+1 by simp at hl;omega]
  unfold ukGo
  rw[if_pos (show keyW []=[] from rfl),List.append_nil]
 | v::l,out,h,hN,hl=>by
  simp only[List.length_cons] at hl
  have hv:=h v (List.mem_cons_self ..)
  rw[show 9 - out.length=(8 - out.length)+1 by omega]
  unfold ukGo
  have e:keyW (v::l)=kW v++keyW l:=by unfold keyW;rw[List.flatMap_cons]
  have hu:=unkR_back hv (hN v (List.mem_cons_self ..)) (keyW l)
  have h16:=(vChk_inv hv).2.2.2
  rw[e,if_neg (by simp[kW_ne]),if_neg (by omega),hu]
  simp only
  rw[if_neg (by simp),if_neg (by omega)]
  have:=ukGo_back l (out++[v]) (fun x hx=>h x (List.mem_cons_of_mem _ hx)) (fun x hx=>hN x (List.mem_cons_of_mem _ hx)) (by simp;omega)
  simp only[List.length_append,List.length_singleton] at this
  rw[show 9 - (out.length+1)=8 - out.length by omega] at this
  rw[this];simp
theorem ukR_back {l:List ValueD} (h:rowChk l=0) (hN:∀v∈l,okInt v.N):ukR (keyW l)=(l,0):=by
 obtain⟨h8,hv⟩:=rowChk_ok h
 have:=ukGo_back l [] hv hN (by simpa using h8)
 simpa [ukR] using this
end
section
open Go.RowKit K
set_option maxRecDepth 100000
set_option maxRecDepth 100000
theorem keyR_inj {a b:RowT} (ha:rowChk a=0) (na:∀v∈a,okInt v.N) (hb:rowChk b=0) (nb:∀v∈b,okInt v.N) (h:keyR a=keyR b):a=b:=by
 unfold keyR at h
 rw[if_pos ha,if_pos hb] at h
 have e:=ukR_back ha na
 rw[h,ukR_back hb nb] at e
 exact (Prod.mk.inj e).1.symm
theorem mem_putS {seen:List (List UInt8)} {s x:List UInt8}:x∈putS seen s↔x∈seen∨x=s:=by
 unfold putS
 split
 ·rename_i h
  exact⟨.inl,fun q=>q.elim id fun e=>e ▸ h⟩
 ·rw[List.mem_append,List.mem_singleton]
theorem mem_seenK:∀{l:List RowT} {seen:List (List UInt8)} {x:List UInt8},x∈seenK seen l↔x∈seen∨∃r∈l,x=keyR r
 | [],seen,x=>by
  show x∈seen↔_
  exact⟨.inl,fun q=>q.elim id fun ⟨r,h,_⟩=>absurd h List.not_mem_nil⟩
 | r::l,seen,x=>by
  show x∈seenK (putS seen (keyR r)) l↔_
  rw[mem_seenK,mem_putS]
  constructor
  ·rintro ((h | h) | ⟨y,h,e⟩)
   ·exact .inl h
   ·exact .inr ⟨r,List.mem_cons_self,h⟩
   ·exact .inr ⟨y,List.mem_cons_of_mem _ h,e⟩
  ·rintro (h | ⟨y,h,e⟩)
   ·exact .inl (.inl h)
   ·rcases List.mem_cons.1 h with rfl | h
    ·exact .inl (.inr e)
    ·exact .inr ⟨y,h,e⟩
theorem rowEqB_iff (a b:RowT):rowEqB a b=true↔a=b:=listEqB_iff ValueD.eqB_iff a b
theorem rowsEqB_iff (a b:List RowT):rowsEqB a b=true↔a=b:=listEqB_iff rowEqB_iff a b
theorem howF_zero {l:List RowT} {r:RowT}:howF l r=0↔r∉l:=by
 unfold howF
 rw[List.countP_eq_zero]
 constructor
 ·intro h m
  exact h r m ((rowEqB_iff r r).2 rfl)
 ·intro h x hx e
  rw[rowEqB_iff] at e
  exact h (e ▸ hx)
abbrev OkRows (l:List RowT):Prop:=∀r∈l,rowChk r=0∧∀v∈r,okInt v.N
theorem mem_seen_iff {l:List RowT} (h:OkRows l) {r:RowT} (hr:rowChk r=0) (nr:∀v∈r,okInt v.N):keyR r∈seenK [] l↔r∈l:=by
 rw[mem_seenK]
 constructor
 ·rintro (q | ⟨y,hy,e⟩)
  ·cases q
  ·rw[keyR_inj hr nr (h y hy).1 (h y hy).2 e];exact hy
 ·exact fun q=>.inr ⟨r,q,rfl⟩
theorem dist_ref {l:List RowT} (h:OkRows l):∀k,k≤l.length→distK [] (l.take k)=distR l k
 | 0,_=>rfl
 | k+1,hk=>by
  have q:k<l.length:=hk
  have ih:=dist_ref h k (by omega)
  obtain⟨h1,h2⟩:=h _ (List.getElem_mem q)
  rw[take_snoc q,distK_snoc,distR_succ q,ih]
  congr 1
  have e:=mem_seen_iff (l:=l.take k) (fun r hr=>h r (List.mem_of_mem_take hr)) h1 h2
  by_cases m:l[k]∈l.take k
  ·rw[if_pos (e.2 m),if_neg (fun z=>howF_zero.1 z m)]
  ·rw[if_neg (fun z=>m (e.1 z)),if_pos (howF_zero.2 m)]
theorem okRows_of {l:List RowT} (h:rowsChk l=0) (hN:∀r∈l,∀v∈r,okInt v.N):OkRows l:=fun r hr=>by
 obtain⟨_,h8⟩:=rowsChk_ok.1 h
 refine⟨?_,hN r hr⟩
 unfold rowChk
 rw[if_neg (by have:=(h8 r hr).1;omega)]
 exact (h8 r hr).2.2
theorem distinct_ref {l:List RowT} (h:rowsChk l=0) (hN:∀r∈l,∀v∈r,okInt v.N):distK [] l=distR l l.length:=by
 rw[← dist_ref (okRows_of h hN) l.length (Nat.le_refl _),List.take_length]
end
section
open Go.RowKit K
set_option maxRecDepth 100000
def litN (v:ValueD):NodeD:=⟨1,0,v,[]⟩
theorem p_nodes (l:List NodeD):Pure Tryz.prog 26 [slV 6 NodeD.c l] (slV 6 NodeD.c l):=by
 refine pure_of Tryz.func26 (by rfl) rfl (by kernel_rfl) (by rfl) ?_
 ((conv=>whnf);repeat' ((first|(with_reducible first|apply a_|apply b_|apply c_)|((with_reducible first|apply d_|apply e_|apply f_|apply g_);focus first|omega|(simp only[q_]<;>omega))|((with_reducible first|apply i_|apply h_);focus first|omega|(simp only[q_]<;>omega))|((with_reducible apply h_);focus first|decide|kernel_rfl)|refine s_ (by decide) ?_|refine t_ (by decide) ?_|with_reducible first|apply l_|apply m_|apply n_|apply o_|refine p_ (fun _=>?_) (fun _=>?_))<;>(conv=>whnf)))
 exact Ret.eq rfl
def colN (s:List UInt8):NodeD:=⟨2,0,noV,s⟩
def opsN (op k:Int):NodeD:=⟨op,k,noV,[]⟩
theorem p_ncol (s:List UInt8):Pure Tryz.prog 27 [pStr (tx s)] (nV (colN s)):=by
 refine pure_of Tryz.func27 (by rfl) rfl (by kernel_rfl) (by rfl) ?_
 ((conv=>whnf);repeat' ((first|(with_reducible first|apply a_|apply b_|apply c_)|((with_reducible first|apply d_|apply e_|apply f_|apply g_);focus first|omega|(simp only[q_]<;>omega))|((with_reducible first|apply i_|apply h_);focus first|omega|(simp only[q_]<;>omega))|((with_reducible apply h_);focus first|decide|kernel_rfl)|refine s_ (by decide) ?_|refine t_ (by decide) ?_|with_reducible first|apply l_|apply m_|apply n_|apply o_|refine p_ (fun _=>?_) (fun _=>?_))<;>(conv=>whnf)))
 exact Ret.eq rfl
theorem p_nlit (v:ValueD):Pure Tryz.prog 28 [vV v] (nV (litN v)):=by
 refine pure_of Tryz.func28 (by rfl) rfl (by kernel_rfl) (by rfl) ?_
 ((conv=>whnf);repeat' ((first|(with_reducible first|apply a_|apply b_|apply c_)|((with_reducible first|apply d_|apply e_|apply f_|apply g_);focus first|omega|(simp only[q_]<;>omega))|((with_reducible first|apply i_|apply h_);focus first|omega|(simp only[q_]<;>omega))|((with_reducible apply h_);focus first|decide|kernel_rfl)|refine s_ (by decide) ?_|refine t_ (by decide) ?_|with_reducible first|apply l_|apply m_|apply n_|apply o_|refine p_ (fun _=>?_) (fun _=>?_))<;>(conv=>whnf)))
 exact Ret.eq rfl
theorem p_nop (op k:Int):Pure Tryz.prog 29 [pInt .i64 op,pInt .i64 k] (nV (opsN op k)):=by
 refine pure_of Tryz.func29 (by rfl) rfl (by kernel_rfl) (by rfl) ?_
 ((conv=>whnf);repeat' ((first|(with_reducible first|apply a_|apply b_|apply c_)|((with_reducible first|apply d_|apply e_|apply f_|apply g_);focus first|omega|(simp only[q_]<;>omega))|((with_reducible first|apply i_|apply h_);focus first|omega|(simp only[q_]<;>omega))|((with_reducible apply h_);focus first|decide|kernel_rfl)|refine s_ (by decide) ?_|refine t_ (by decide) ?_|with_reducible first|apply l_|apply m_|apply n_|apply o_|refine p_ (fun _=>?_) (fun _=>?_))<;>(conv=>whnf)))
 exact Ret.eq rfl
theorem p_vI (n:Int):Pure Tryz.prog 23 [pInt .i64 n] (vV ⟨1,n,[]⟩):=by
 refine pure_of Tryz.func23 (by rfl) rfl (by kernel_rfl) (by rfl) ?_
 ((conv=>whnf);repeat' ((first|(with_reducible first|apply a_|apply b_|apply c_)|((with_reducible first|apply d_|apply e_|apply f_|apply g_);focus first|omega|(simp only[q_]<;>omega))|((with_reducible first|apply i_|apply h_);focus first|omega|(simp only[q_]<;>omega))|((with_reducible apply h_);focus first|decide|kernel_rfl)|refine s_ (by decide) ?_|refine t_ (by decide) ?_|with_reducible first|apply l_|apply m_|apply n_|apply o_|refine p_ (fun _=>?_) (fun _=>?_))<;>(conv=>whnf)))
 exact Ret.eq rfl
theorem p_vT (s:List UInt8):Pure Tryz.prog 24 [pStr (tx s)] (vV ⟨2,0,s⟩):=by
 refine pure_of Tryz.func24 (by rfl) rfl (by kernel_rfl) (by rfl) ?_
 ((conv=>whnf);repeat' ((first|(with_reducible first|apply a_|apply b_|apply c_)|((with_reducible first|apply d_|apply e_|apply f_|apply g_);focus first|omega|(simp only[q_]<;>omega))|((with_reducible first|apply i_|apply h_);focus first|omega|(simp only[q_]<;>omega))|((with_reducible apply h_);focus first|decide|kernel_rfl)|refine s_ (by decide) ?_|refine t_ (by decide) ?_|with_reducible first|apply l_|apply m_|apply n_|apply o_|refine p_ (fun _=>?_) (fun _=>?_))<;>(conv=>whnf)))
 exact Ret.eq rfl
end
section
open Go.RowKit K
set_option maxRecDepth 100000
set_option maxRecDepth 100000
theorem p_brow (l:List ValueD):Pure Tryz.prog 22 [slV 3 ValueD.c l] (slV 3 ValueD.c l):=by
 refine pure_of Tryz.func22 (by rfl) rfl (by kernel_rfl) (by rfl) ?_
 ((conv=>whnf);repeat' ((first|(with_reducible first|apply a_|apply b_|apply c_)|((with_reducible first|apply d_|apply e_|apply f_|apply g_);focus first|omega|(simp only[q_]<;>omega))|((with_reducible first|apply i_|apply h_);focus first|omega|(simp only[q_]<;>omega))|((with_reducible apply h_);focus first|decide|kernel_rfl)|refine s_ (by decide) ?_|refine t_ (by decide) ?_|with_reducible first|apply l_|apply m_|apply n_|apply o_|refine p_ (fun _=>?_) (fun _=>?_))<;>(conv=>whnf)))
 exact Ret.eq rfl
theorem p_brows (l:List RowT):Pure Tryz.prog 21 [rwsV l] (rwsV l):=by
 refine pure_of Tryz.func21 (by rfl) rfl (by kernel_rfl) (by rfl) ?_
 ((conv=>whnf);repeat' ((first|(with_reducible first|apply a_|apply b_|apply c_)|((with_reducible first|apply d_|apply e_|apply f_|apply g_);focus first|omega|(simp only[q_]<;>omega))|((with_reducible first|apply i_|apply h_);focus first|omega|(simp only[q_]<;>omega))|((with_reducible apply h_);focus first|decide|kernel_rfl)|refine s_ (by decide) ?_|refine t_ (by decide) ?_|with_reducible first|apply l_|apply m_|apply n_|apply o_|refine p_ (fun _=>?_) (fun _=>?_))<;>(conv=>whnf)))
 exact Ret.eq rfl
theorem p_brows0 (rows:List (List C)):Pure Tryz.prog 21 [.d (.c (.sl 1 rows))] (.d (.c (.sl 1 rows))):=by
 refine pure_of Tryz.func21 (by rfl) rfl (by kernel_rfl) (by rfl) ?_
 ((conv=>whnf);repeat' ((first|(with_reducible first|apply a_|apply b_|apply c_)|((with_reducible first|apply d_|apply e_|apply f_|apply g_);focus first|omega|(simp only[q_]<;>omega))|((with_reducible first|apply i_|apply h_);focus first|omega|(simp only[q_]<;>omega))|((with_reducible apply h_);focus first|decide|kernel_rfl)|refine s_ (by decide) ?_|refine t_ (by decide) ?_|with_reducible first|apply l_|apply m_|apply n_|apply o_|refine p_ (fun _=>?_) (fun _=>?_))<;>(conv=>whnf)))
 exact Ret.eq rfl
theorem nilrow_pure {P:Program} {f:FuncId} {rows:List (List C)} {res:PV} (h:Pure P f [.d (.c (.sl 1 ([.sl 3 []]::rows)))] res):Pure P f [.d (.c (.sl 1 ([.v (.slice none 0 0)]::rows)))] res:=by
 refine⟨h.1,fun F w vs hG hF hv=>h.2 F w vs hG hF ?_⟩
 cases vs with
 | nil=>unfold PsRep at hv;exact hv.elim
 | cons v vs=>
  unfold PsRep at hv ⊢
  refine⟨?_,hv.2⟩
  have h1:=hv.1
  unfold PRep DRep CRep at h1 ⊢
  obtain⟨a,cap,e,c1,c2,c3,c4⟩:=h1
  refine⟨a,cap,e,c1,c2,c3,.inr ?_⟩
  obtain⟨b,off,e2,c5⟩:=c4.resolve_left (by simp)
  refine⟨b,off,e2,?_⟩
  unfold RowsAt at c5 ⊢
  refine⟨⟨rfl,?_⟩,c5.2⟩
  have c6:=c5.1.2
  unfold CsAt at c6 ⊢
  obtain⟨⟨f1,u,f2,f3⟩,f4⟩:=c6
  refine⟨⟨f1,u,f2,?_⟩,by unfold CsAt;trivial⟩
  unfold CRep at f3 ⊢
  obtain⟨rfl,_⟩:=f3
  exact⟨none,0,rfl,Nat.le_refl _,Nat.zero_le _,fun _=>rfl,.inl rfl⟩
theorem hnode_small {e:List NodeD} (h:∀n∈e,n.Name.length≤10∧WholeP.In64 n.V.N):∀n∈e,hNode n:=fun n hn=>⟨by have:=(h n hn).1;unfold okText;omega,(h n hn).2⟩
def bb:ValueD:=⟨2,0,[98]⟩
def bi (n:Int):ValueD:=⟨1,n,[]⟩
def bR0:RowT:=[bi 2,bb]
def bR1:RowT:=[bi 1,bb]
def bgL:List RowT:=[bR0,bR1,bR0]
def bgC:List (List UInt8):=[[110],[115]]
def bgE:List NodeD:=[colN [110],litN (bi 1),opsN 14 2]
def bgP:List (List NodeD):=[[colN [115]],[colN [110],opsN 3 1]]
def bgA:List AggD:=[⟨2,0⟩,⟨1,-1⟩]
theorem g1:filtF bgL bgC bgE=([bR0,bR0],0):=by rfl
theorem g2:sortF bgL [⟨1,false⟩,⟨0,false⟩]=([bR1,bR0,bR0],0):=by rfl
theorem g3:distF bgL=([bR0,bR1],0):=by rfl
theorem g4:sumF (colF bgL 0)=(bi 5,0):=by rfl
theorem g5:projF [bR0] bgC bgP=([[bb,bi (-2)]],0):=by rfl
theorem g6:joinF2 [bR0] [bR0,bR1]=([bR0++bR0,bR0++bR1],0):=by rfl
theorem g7:limF bgL 1 1=([bR1],0):=by rfl
theorem g8:rowsChk [[],bR0]=1:=by decide +kernel
set_option maxHeartbeats 1000000 in
theorem p_bagbegun:Pure Tryz.prog 9 [] (pBool true):=by
 have hL:∀r∈bgL,∀v∈r,WholeP.In64 v.N:=by decide
 have h0:∀r∈[bR0],∀v∈r,WholeP.In64 v.N:=by decide
 have q1:=p_Filter bgL hL bgC bgE (hnode_small (by decide))
 rw[g1] at q1
 have q2:=p_Sort20 bgL [⟨1,false⟩,⟨0,false⟩] (fun _=>.inr (.inr (by decide)))
 rw[g2] at q2
 have q3:=p_Distinct bgL hL
 rw[g3] at q3
 have t1:=p_tell_sum bgL 0 (by decide) (by decide) (by decide) hL
 rw[g4] at t1
 have t2:=p_tell_count bgL (-1) (by decide)
 have pg:=p_grouping_ok bgL (by decide) [1] bgA (by decide) (by decide) (by rfl) (by decide)
 have q4:=p_Group1 bgL 1 bb bgA [bi 5,bi 3] (by decide) (by rfl) (fun r hr=>by
  have:r=bR0∨r=bR1:=by
   rcases List.mem_cons.1 hr with h | hr
   ·exact .inl h
   ·rcases List.mem_cons.1 hr with h | hr
    ·exact .inr h
    ·exact .inl (List.mem_singleton.1 hr)
  rcases this with rfl | rfl<;>exact⟨by decide,rfl⟩) pg (by decide) rfl (fun k h h2=>by
  have:k=0∨k=1:=by have:k<2:=h;omega
  rcases this with rfl | rfl
  ·exact t1
  ·exact t2)
 have q5:=p_Project [bR0] h0 bgC bgP (fun e he=>by
  have:e=[colN [115]]∨e=[colN [110],opsN 3 1]:=by simpa [bgP] using he
  rcases this with rfl | rfl<;>exact hnode_small (by decide))
 rw[g5] at q5
 have q6:=s_Join [bR0] [bR0,bR1]
 rw[g6] at q6
 have q7:=p_Limit bgL 1 1
 rw[g7] at q7
 have q8:=p_bagcheck [[],bR0]
 rw[g8] at q8
 have q8:=nilrow_pure (rows:=[rowC bR0]) q8
 have cn:Pure _ _ [pStr ⟨#[110]⟩] _:=p_ncol [110]
 have cs:Pure _ _ [pStr ⟨#[115]⟩] _:=p_ncol [115]
 have vt:Pure _ _ [pStr ⟨#[98]⟩] _:=p_vT [98]
 have i2:=p_vI 2
 have i1:=p_vI 1
 have i5:=p_vI 5
 have i3:=p_vI 3
 have im:=p_vI (-2)
 have nl:=p_nlit (bi 1)
 have n1:=p_nop 14 2
 have n2:=p_nop 3 1
 have e1:=p_nodes bgE
 have e2:=p_nodes [colN [115]]
 have e3:=p_nodes [colN [110],opsN 3 1]
 have r0:=p_brow bR0
 have r1:=p_brow bR1
 have r2:=p_brow [bb,bi 5,bi 3]
 have r3:=p_brow [bb,bi (-2)]
 have w0:=p_brows bgL
 have w1:=p_brows [bR0,bR0]
 have w2:=p_brows [bR1,bR0,bR0]
 have w3:=p_brows [[bb,bi 5,bi 3]]
 have w4:=p_brows [[bb,bi (-2)]]
 have w5:=p_brows0 [[.v (.slice none 0 0)],rowC bR0]
 have s1:=p_samerows [bR0,bR0] [bR0,bR0] (by decide) (by decide)
 have s2:=p_samerows [bR1,bR0,bR0] [bR1,bR0,bR0] (by decide) (by decide)
 have s3:=p_samerows [bR0,bR1] [bR0,bR1] (by decide) (by decide)
 have s4:=p_samerows [[bb,bi 5,bi 3]] [[bb,bi 5,bi 3]] (by decide) (by decide)
 have s5:=p_samerows [[bb,bi (-2)]] [[bb,bi (-2)]] (by decide) (by decide)
 have s6:=p_samerows [bR1] [bR1] (by decide) (by decide)
 rw[(rowsEqB_iff _ _).2 rfl] at s1 s2 s3 s4 s5 s6
 refine pure_of Tryz.func9 (by rfl) rfl (by kernel_rfl) (by rfl) ?_
 ((conv=>whnf);repeat' ((first|(with_reducible first|apply a_|apply b_|apply c_)|((with_reducible first|apply d_|apply e_|apply f_|apply g_);focus first|omega|(simp only[q_]<;>omega))|((with_reducible first|apply i_|apply h_);focus first|omega|(simp only[q_]<;>omega))|((with_reducible apply h_);focus first|decide|kernel_rfl)|refine s_ (by decide) ?_|refine t_ (by decide) ?_|refine r_ vt rfl ?_|refine r_ i2 rfl ?_|refine r_ i1 rfl ?_|refine r_ i5 rfl ?_|refine r_ i3 rfl ?_|refine r_ im rfl ?_|refine r_ r0 rfl ?_|refine r_ r1 rfl ?_|refine r_ r2 rfl ?_|refine r_ r3 rfl ?_|refine r_ w0 rfl ?_|refine r_ w1 rfl ?_|refine r_ w2 rfl ?_|refine r_ w3 rfl ?_|refine r_ w4 rfl ?_|refine r_ w5 rfl ?_|refine r_ cn rfl ?_|refine r_ cs rfl ?_|refine r_ nl rfl ?_|refine r_ n1 rfl ?_|refine r_ n2 rfl ?_|refine r_ e1 rfl ?_|refine r_ e2 rfl ?_|refine r_ e3 rfl ?_|refine r_ q1 rfl ?_|refine r_ q2 rfl ?_|refine r_ q3 rfl ?_|refine r_ q4 rfl ?_|refine r_ q5 rfl ?_|(refine CallP.ret [(NK,86)] _ _ _ _ _ _ _ q6 rfl rfl rfl rfl trivial ?_)|refine r_ q7 rfl ?_|refine r_ q8 rfl ?_|refine r_ s1 rfl ?_|refine r_ s2 rfl ?_|refine r_ s3 rfl ?_|refine r_ s4 rfl ?_|refine r_ s5 rfl ?_|refine r_ s6 rfl ?_|(refine Idx.mk _ (by decide) rfl ?_)|with_reducible first|apply l_|apply m_|apply n_|apply o_|refine p_ (fun _=>?_) (fun _=>?_))<;>(conv=>whnf)))
 all_goals first
  | exact Ret.eq rfl
  | exact Ret.bool (by decide +kernel)
  | trace_state
end
section
open Go.RowKit K
set_option maxRecDepth 100000
set_option maxRecDepth 100000
theorem CallS.pure {P:Program} {f:FuncId} {args:List PV} {res r:PV} {out:Rf} (h:CallS P f args [] [] res out) (hcl:PV.closeH (hpL out) res fun y=>y=r):Pure P f args r:=by
 refine⟨h.1,fun F w vs hG hF hargs=>?_⟩
 obtain⟨c,hcdef⟩:∃c:Ctx,c=⟨w,F,fun _=>False,fun _ _=>False,fun _=>none,[]⟩:=⟨_,rfl⟩
 have hn0:c.n0=w.heap.size:=by rw[hcdef]
 have hF0:c.F0=F:=by rw[hcdef]
 have hF1:c.F1=fun _ _=>False:=by rw[hcdef]
 have hσ0:c.σ0=fun _=>none:=by rw[hcdef]
 have hw0:c.w0=w:=by rw[hcdef]
 have hdf:c.df=[]:=by rw[hcdef]
 have hext:∀b,¬c.ext b:=by intro b;rw[hcdef];exact id
 have hc:c.Ok:=⟨fun b o h=>⟨by rw[hn0];exact hF b o (by rw[← hF0];exact h),hext b⟩,by rw[hw0];exact hG,fun b _=>hext b⟩
 have hfz:∀b o,F b o→fz c (fun _=>none) (hpL ([]++[])) w b o:=fun b o h=>.inl ⟨by rw[hn0];exact hF b o h,by rw[hF0];exact h⟩
 have hsw:SW c c.σ0 (hpL ([]++[])) c.w0:=by
  refine⟨rfl,rfl,rfl,Nat.le_refl _,fun b _ _=>rfl,(fun k hb hk=>by cases hk),fun k k' g n n' hk=>absurd rfl hk,?_,Shape.refl _,fun k x hk=>hk⟩
  rw[hF1];exact⟨fun _ _ h=>h.elim,fun _ _ h=>h.elim⟩
 have:=h.2 c vs hc hdf (fun k _=>by rw[hσ0]) hsw (by rw[hσ0,hw0];exact PsRep.of_none ⟨hfz,fun _ _ _=>rfl⟩ _ _ hargs)
 rw[hw0] at this
 refine this.mono ?_
 rintro e w' ⟨v,σ',rfl,hs',hp⟩
 rw[List.nil_append] at hs' hp
 have hbel:Below w.heap.size w w':=⟨by rw[hs'.os,hw0],by rw[hs'.tape,hw0],by rw[hs'.output,hw0],by have:=hs'.size;rw[hn0] at this;exact this,fun k hk=>by
  rw[hs'.block k (by rw[hn0];exact hk) (hext k),hw0]⟩
 have hkeep:Keeps (fz c σ' (hpL out) w') (fun b o=>F b o∨(w.heap.size≤b∧b<w'.heap.size)) w' w':=by
  refine⟨fun b o hq=>?_,fun _ _ _=>rfl⟩
  rcases hq with ⟨q1,q2⟩ | ⟨q1,q2,_⟩
  ·rw[hF0] at q2;exact .inl q2
  ·rcases q1 with q1 | q1
   ·rw[hn0] at q1;exact .inr ⟨q1,q2⟩
   ·exact absurd q1 (hext b)
 obtain⟨y,rfl,h4⟩:=pcloseH_out hs' hkeep (fun b o hown hlt=>by
  rcases hown with q | q
  ·rw[hn0] at q;exact .inr ⟨q,hlt⟩
  ·exact absurd q (hext b)) hcl
 exact⟨v,rfl,hbel,h4 v hp⟩
abbrev okRws (l:List RowT):Prop:=okSl (Tryz.prog.bytesOf 33) (okSl (Tryz.prog.bytesOf 36) ValueD.ok) l
theorem okRws_in {l:List RowT} (h:okRws l):∀r∈l,∀v∈r,WholeP.In64 v.N:=fun r hr v hv=>((h.2 r hr).2 v hv).2.1
theorem okRws_row {l:List RowT} (h:okRws l):∀r∈l,r.length≤140737488355328:=fun r hr=>by
 have h1:=(h.2 r hr).1
 rw[show Tryz.prog.bytesOf 36=32 by kernel_rfl] at h1
 omega
theorem samerows_refl (a:List RowT) (hla:a.length≤140737488355328) (ha:∀r∈a,r.length≤140737488355328):Pure Tryz.prog 10 [rwsV a,rwsV a] (pBool true):=by
 have:=p_samerows a a hla ha
 rwa [(rowsEqB_iff a a).2 rfl] at this
theorem distF_mem {l:List RowT}:∀{s:List (List UInt8)} {r:RowT},r∈distK s l→r∈l:=by
 induction l with
 | nil=>intro s r h;cases h
 | cons x l ih=>
  intro s r h
  unfold distK at h
  split at h
  ·exact List.mem_cons_of_mem _ (ih h)
  ·rcases List.mem_cons.1 h with rfl | h
   ·exact List.mem_cons_self
   ·exact List.mem_cons_of_mem _ (ih h)
theorem same_small {a:List RowT} (h:a.length≤40∧∀r∈a,r.length≤16):Pure Tryz.prog 10 [rwsV a,rwsV a] (pBool true):=samerows_refl a (by omega) fun r hr=>by have:=h.2 r hr;omega
end
section
open Go.RowKit K
set_option maxRecDepth 100000
set_option maxRecDepth 100000
theorem keyOf_snoc {by_:List Int} {r:RowT} {j:Nat} (h:j<by_.length):keyOfR (by_.take (j+1)) r=keyOfR (by_.take j) r++[r.getD by_[j].toNat noV]:=by
 unfold keyOfR
 rw[take_snoc h,List.map_append];rfl
theorem s_someof (r:RowT) (by_:List Int) (hb:by_.length≤1000) (hc:∀c∈by_,0≤c∧c.toNat<r.length):CallS Tryz.prog 19 [slV 3 ValueD.c r,slV 1 iC by_] [] [] (.d (.app NK TV 3 ((keyOfR by_ r).map ValueD.c))) [(NK,.tail TV 3)]:=by
 have hmb:(by_.map iC).length=by_.length:=List.length_map _
 have hmr:(r.map ValueD.c).length=r.length:=List.length_map _
 refine callS_of Tryz.func19 (by rfl) rfl (by kernel_rfl) (by rfl) [] rfl ?_
 ((conv=>whnf);repeat' ((first|(with_reducible first|apply a_|apply b_|apply c_)|((with_reducible first|apply d_|apply e_|apply f_|apply g_);focus first|omega|(simp only[q_]<;>omega))|((with_reducible first|apply i_|apply h_);focus first|omega|(simp only[q_]<;>omega))|((with_reducible apply h_);focus first|decide|kernel_rfl)|refine s_ (by decide) ?_|refine t_ (by decide) ?_|with_reducible first|apply l_|apply m_|apply n_|apply o_|refine p_ (fun _=>?_) (fun _=>?_))<;>(conv=>whnf)))
 refine LoopC.mk Nat (fun k=>[(0,slV 3 ValueD.c r),(1,slV 1 iC by_),(5,.d (.app 160 TV 3 ((keyOfR (by_.take k) r).map ValueD.c))),(6,pInt .i64 (k:Int))]) (fun _=>[(160,.tail TV 3)]) [160] (fun k=>k≤by_.length) (fun k=>by_.length - k) 0 (Nat.zero_le _) ?start ?round
 case start=>refine⟨[],?_,?_,?_,?_⟩<;>repeat' (first|exact rfl|exact trivial|exact Or.inl rfl|exact PLe.int (by simp) | exact Nat.zero_lt_succ _|refine And.intro ?_ ?_)
 case round=>
  intro k hk
  have hk:k≤by_.length:=hk
  by_cases q:k<by_.length
  ·obtain⟨c1,c2⟩:=hc _ (List.getElem_mem q)
   have cc:by_[k]=(by_[k].toNat:Int):=by omega
   have hs:=keyOf_snoc (r:=r) q
   rw[List.getD_eq_getElem?_getD,List.getElem?_eq_getElem c2,Option.getD_some] at hs
   have hlen:(keyOfR (by_.take k) r).length≤1000:=by rw[keyOfR_len,List.length_take];omega
   ((conv=>whnf);repeat' ((first|(with_reducible first|apply a_|apply b_|apply c_)|((with_reducible first|apply d_|apply e_|apply f_|apply g_);focus first|omega|(simp only[q_]<;>omega))|((with_reducible first|apply i_|apply h_);focus first|omega|(simp only[q_]<;>omega))|((with_reducible apply h_);focus first|decide|kernel_rfl)|refine s_ (by decide) ?_|refine t_ (by decide) ?_|(first|refine Idx.mapI (f:=iC) k rfl q ?_|refine Idx.mapI (f:=ValueD.c) by_[k].toNat cc c2 ?_)|(refine Need.by 32 rfl (by simp only[List.length_map,List.length_singleton];omega) ?_)|with_reducible first|apply l_|apply m_|apply n_|apply o_|refine p_ (fun _=>?_) (fun _=>?_))<;>(conv=>whnf)))
   all_goals first
    | (refine⟨k+1,q,by omega,[(160,22)],?_,?_,?_,?_⟩<;>repeat' (first|exact rfl|exact trivial|exact Or.inl rfl|exact PLe.int (by omega) | exact (by rw[hs,List.map_append];rfl) | refine And.intro ?_ ?_))
    | (exfalso;omega)
    | skip
  ·have e:by_.take k=by_:=List.take_of_length_le (by omega)
   rw[e]
   ((conv=>whnf);repeat' ((first|(with_reducible first|apply a_|apply b_|apply c_)|((with_reducible first|apply d_|apply e_|apply f_|apply g_);focus first|omega|(simp only[q_]<;>omega))|((with_reducible first|apply i_|apply h_);focus first|omega|(simp only[q_]<;>omega))|((with_reducible apply h_);focus first|decide|kernel_rfl)|refine s_ (by decide) ?_|refine t_ (by decide) ?_|with_reducible first|apply l_|apply m_|apply n_|apply o_|refine p_ (fun _=>?_) (fun _=>?_))<;>(conv=>whnf)))
   all_goals first
    | (exfalso;omega)
    | exact RetS.mk [(NK,160)] [NK] rfl rfl ⟨rfl,rfl,rfl,rfl,rfl⟩ ⟨⟨rfl,kle_of rfl rfl ⟨rfl,rfl⟩⟩,trivial⟩
    | skip
theorem p_someof (r:RowT) (by_:List Int) (hb:by_.length≤1000) (hc:∀c∈by_,0≤c∧c.toNat<r.length):Pure Tryz.prog 19 [slV 3 ValueD.c r,slV 1 iC by_] (slV 3 ValueD.c (keyOfR by_ r)):=(s_someof r by_ hb hc).pure rfl
theorem placesF_at {l:List RowT} {at_:List Int} {k:Nat} (h:k<at_.length):placesF l (at_.drop k)=if 0<l.length∧(at_[k]<0∨(widthF l:Int)≤at_[k]) then 3 else placesF l (at_.drop (k+1)):=by
 rw[List.drop_eq_getElem_cons h,placesF]
theorem place1 (l:List RowT) (c:Int):placesF l [c]=if 0<l.length∧(c<0∨(widthF l:Int)≤c) then 3 else 0:=by rw[placesF,placesF]
theorem placesF_none {l:List RowT} (h:l.length=0):∀at_:List Int,placesF l at_=0
 | []=>rfl
 | c::cs=>by rw[placesF,if_neg (by omega),placesF_none h cs]
theorem aggE_none {l:List RowT} (h:l.length=0):∀aggs:List AggD,aggE l aggs=0
 | []=>rfl
 | a::al=>by rw[aggE,if_neg (fun q=>q.2 (placesF_none h _)),aggE_none h al]
set_option maxHeartbeats 1000000 in
theorem p_groupcheck (l:List RowT) (hr:∀r∈l,r.length≤140737488355328) (by_:List Int) (aggs:List AggD) (hb:by_.length≤140737488355328) (ha:aggs.length≤140737488355328) :
  Pure Tryz.prog 18 [rwsV l,slV 1 iC by_,slV 2 AggD.c aggs] (pInt .i64 (if rowsChk l≠0 then rowsChk l else grpG l by_ aggs)):=by
 have hml:(l.map rowC).length=l.length:=List.length_map _
 have hmb:(by_.map iC).length=by_.length:=List.length_map _
 have hma:(aggs.map AggD.c).length=aggs.length:=List.length_map _
 have pc:=p_rowscheck l hr
 refine pure_of Tryz.func18 (by rfl) rfl (by kernel_rfl) (by rfl) ?_
 by_cases h0:rowsChk l≠0
 ·rw[if_pos h0]
  ((conv=>whnf);repeat' ((first|(with_reducible first|apply a_|apply b_|apply c_)|((with_reducible first|apply d_|apply e_|apply f_|apply g_);focus first|omega|(simp only[q_]<;>omega))|((with_reducible first|apply i_|apply h_);focus first|omega|(simp only[q_]<;>omega))|((with_reducible apply h_);focus first|decide|kernel_rfl)|refine s_ (by decide) ?_|refine t_ (by decide) ?_|refine r_ pc rfl ?_|with_reducible first|apply l_|apply m_|apply n_|apply o_|refine p_ (fun _=>?_) (fun _=>?_))<;>(conv=>whnf)))
  all_goals first|exact Ret.int rfl|exact Ret.mk rfl | (exfalso;omega)
 ·rw[if_neg h0]
  have h0:rowsChk l=0:=Decidable.of_not_not h0
  rw[h0] at pc
  have pw:=p_widthR l hr
  unfold grpG
  by_cases h8:8<by_.length+aggs.length
  ·rw[if_pos h8]
   ((conv=>whnf);repeat' ((first|(with_reducible first|apply a_|apply b_|apply c_)|((with_reducible first|apply d_|apply e_|apply f_|apply g_);focus first|omega|(simp only[q_]<;>omega))|((with_reducible first|apply i_|apply h_);focus first|omega|(simp only[q_]<;>omega))|((with_reducible apply h_);focus first|decide|kernel_rfl)|refine s_ (by decide) ?_|refine t_ (by decide) ?_|refine r_ pc rfl ?_|with_reducible first|apply l_|apply m_|apply n_|apply o_|refine p_ (fun _=>?_) (fun _=>?_))<;>(conv=>whnf)))
   all_goals first|exact Ret.int rfl | (exfalso;omega)
  ·rw[if_neg h8]
   ((conv=>whnf);repeat' ((first|(with_reducible first|apply a_|apply b_|apply c_)|((with_reducible first|apply d_|apply e_|apply f_|apply g_);focus first|omega|(simp only[q_]<;>omega))|((with_reducible first|apply i_|apply h_);focus first|omega|(simp only[q_]<;>omega))|((with_reducible apply h_);focus first|decide|kernel_rfl)|refine s_ (by decide) ?_|refine t_ (by decide) ?_|refine r_ pc rfl ?_|with_reducible first|apply l_|apply m_|apply n_|apply o_|refine p_ (fun _=>?_) (fun _=>?_))<;>(conv=>whnf)))
   all_goals first | (exfalso;omega) | skip
   refine LoopC.mk Nat (fun k=>[(0,rwsV l),(1,slV 1 iC by_),(2,slV 2 AggD.c aggs),(8,pInt .i64 (k:Int))]) (fun _=>[]) [] (fun k=>k≤aggs.length∧∀a∈aggs.take k,¬(a.Kind<1∨4<a.Kind)) (fun k=>aggs.length - k) 0 ⟨Nat.zero_le _,by simp⟩ ?start ?round
   case start=>exact⟨[],rfl,rfl,⟨.inl rfl,.inl rfl,.inl rfl,PLe.int (by simp),trivial⟩,trivial⟩
   case round=>
    rintro k ⟨hk0,hz⟩
    have hk0:k≤aggs.length:=hk0
    have hz:∀a∈aggs.take k,¬(a.Kind<1∨4<a.Kind):=hz
    by_cases q:k<aggs.length
    ·by_cases hb:aggs[k].Kind<1∨4<aggs[k].Kind
     ·rw[if_pos (List.any_eq_true.2 ⟨_,List.getElem_mem q,decide_eq_true hb⟩)]
      ((conv=>whnf);repeat' ((first|(with_reducible first|apply a_|apply b_|apply c_)|((with_reducible first|apply d_|apply e_|apply f_|apply g_);focus first|omega|(simp only[q_]<;>omega))|((with_reducible first|apply i_|apply h_);focus first|omega|(simp only[q_]<;>omega))|((with_reducible apply h_);focus first|decide|kernel_rfl)|refine s_ (by decide) ?_|refine t_ (by decide) ?_|(refine Idx.mapI k rfl q ?_)|with_reducible first|apply l_|apply m_|apply n_|apply o_|refine p_ (fun _=>?_) (fun _=>?_))<;>(conv=>whnf)))
      all_goals first|exact Ret.int rfl | (exfalso;omega)
     ·have hnext:∀a∈aggs.take (k+1),¬(a.Kind<1∨4<a.Kind):=fun a ha=>by
       rw[take_snoc q] at ha
       rcases List.mem_append.1 ha with ha | ha
       ·exact hz a ha
       ·rw[List.mem_singleton.1 ha];exact hb
      ((conv=>whnf);repeat' ((first|(with_reducible first|apply a_|apply b_|apply c_)|((with_reducible first|apply d_|apply e_|apply f_|apply g_);focus first|omega|(simp only[q_]<;>omega))|((with_reducible first|apply i_|apply h_);focus first|omega|(simp only[q_]<;>omega))|((with_reducible apply h_);focus first|decide|kernel_rfl)|refine s_ (by decide) ?_|refine t_ (by decide) ?_|(refine Idx.mapI k rfl q ?_)|with_reducible first|apply l_|apply m_|apply n_|apply o_|refine p_ (fun _=>?_) (fun _=>?_))<;>(conv=>whnf)))
      all_goals first
       | exact⟨k+1,⟨q,hnext⟩,by omega,[],rfl,rfl,⟨.inl rfl,.inl rfl,.inl rfl,PLe.int (by omega),trivial⟩,trivial⟩
       | (exfalso;omega)
       | skip
    ·have hall:¬(aggs.any fun a=>decide (a.Kind<1∨4<a.Kind))=true:=fun h=>by
      obtain⟨a,ha,hd⟩:=List.any_eq_true.1 h
      exact hz a (by rw[List.take_of_length_le (by omega)];exact ha) (of_decide_eq_true hd)
     rw[if_neg hall]
     obtain⟨R,hR⟩:∃R,R=if placesF l by_≠0 then placesF l by_ else aggE l aggs:=⟨_,rfl⟩
     rw[← hR]
     ((conv=>whnf);repeat' ((first|(with_reducible first|apply a_|apply b_|apply c_)|((with_reducible first|apply d_|apply e_|apply f_|apply g_);focus first|omega|(simp only[q_]<;>omega))|((with_reducible first|apply i_|apply h_);focus first|omega|(simp only[q_]<;>omega))|((with_reducible apply h_);focus first|decide|kernel_rfl)|refine s_ (by decide) ?_|refine t_ (by decide) ?_|with_reducible first|apply l_|apply m_|apply n_|apply o_|refine p_ (fun _=>?_) (fun _=>?_))<;>(conv=>whnf)))
     refine LoopC.mk Nat (fun k=>[(0,rwsV l),(1,slV 1 iC by_),(2,slV 2 AggD.c aggs),(9,pInt .i64 (k:Int))]) (fun _=>[]) [] (fun k=>k≤by_.length∧placesF l by_=placesF l (by_.drop k)) (fun k=>by_.length - k) 0 ⟨Nat.zero_le _,rfl⟩ ?start2 ?round2
     case start2=>exact⟨[],rfl,rfl,⟨.inl rfl,.inl rfl,.inl rfl,PLe.int (by simp),trivial⟩,trivial⟩
     case round2=>
      rintro k ⟨hk0,hz⟩
      have hk0:k≤by_.length:=hk0
      have hz:placesF l by_=placesF l (by_.drop k):=hz
      by_cases q:k<by_.length∧0<l.length
      ·obtain⟨q,ql⟩:=q
       rw[placesF_at q] at hz
       by_cases hx:by_[k]<0∨(widthF l:Int)≤by_[k]
       ·rw[if_pos ⟨ql,hx⟩] at hz
        have hR3:R=3:=by rw[hR,if_pos (by rw[hz];decide),hz]
        rw[hR3]
        ((conv=>whnf);repeat' ((first|(with_reducible first|apply a_|apply b_|apply c_)|((with_reducible first|apply d_|apply e_|apply f_|apply g_);focus first|omega|(simp only[q_]<;>omega))|((with_reducible first|apply i_|apply h_);focus first|omega|(simp only[q_]<;>omega))|((with_reducible apply h_);focus first|decide|kernel_rfl)|refine s_ (by decide) ?_|refine t_ (by decide) ?_|(refine Idx.mapI (f:=iC) k rfl q ?_)|refine r_ pw rfl ?_|with_reducible first|apply l_|apply m_|apply n_|apply o_|refine p_ (fun _=>?_) (fun _=>?_))<;>(conv=>whnf)))
        all_goals first|exact Ret.int rfl | (exfalso;omega)
       ·rw[if_neg (fun h=>hx h.2)] at hz
        ((conv=>whnf);repeat' ((first|(with_reducible first|apply a_|apply b_|apply c_)|((with_reducible first|apply d_|apply e_|apply f_|apply g_);focus first|omega|(simp only[q_]<;>omega))|((with_reducible first|apply i_|apply h_);focus first|omega|(simp only[q_]<;>omega))|((with_reducible apply h_);focus first|decide|kernel_rfl)|refine s_ (by decide) ?_|refine t_ (by decide) ?_|(refine Idx.mapI (f:=iC) k rfl q ?_)|refine r_ pw rfl ?_|with_reducible first|apply l_|apply m_|apply n_|apply o_|refine p_ (fun _=>?_) (fun _=>?_))<;>(conv=>whnf)))
        all_goals first
         | exact⟨k+1,⟨q,hz⟩,by omega,[],rfl,rfl,⟨.inl rfl,.inl rfl,.inl rfl,PLe.int (by omega),trivial⟩,trivial⟩
         | (exfalso;omega)
         | skip
      ·have hz0:placesF l by_=0:=by
        by_cases ql:0<l.length
        ·rw[hz,List.drop_of_length_le (by omega)];rfl
        ·exact placesF_none (by omega) _
       rw[hz0,if_neg (by decide)] at hR
       ((conv=>whnf);repeat' ((first|(with_reducible first|apply a_|apply b_|apply c_)|((with_reducible first|apply d_|apply e_|apply f_|apply g_);focus first|omega|(simp only[q_]<;>omega))|((with_reducible first|apply i_|apply h_);focus first|omega|(simp only[q_]<;>omega))|((with_reducible apply h_);focus first|decide|kernel_rfl)|refine s_ (by decide) ?_|refine t_ (by decide) ?_|with_reducible first|apply l_|apply m_|apply n_|apply o_|refine p_ (fun _=>?_) (fun _=>?_))<;>(conv=>whnf)))
       all_goals first | (exfalso;omega) | skip
       all_goals
        refine LoopC.mk Nat (fun k=>[(0,rwsV l),(2,slV 2 AggD.c aggs),(10,pInt .i64 (k:Int))]) (fun _=>[]) [] (fun k=>k≤aggs.length∧R=aggE l (aggs.drop k)) (fun k=>aggs.length - k) 0 ⟨Nat.zero_le _,hR⟩ ⟨[],rfl,rfl,⟨.inl rfl,.inl rfl,PLe.int (by simp),trivial⟩,trivial⟩ ?_
        rintro k ⟨hk0,hz⟩
        have hk0:k≤aggs.length:=hk0
        have hz:R=aggE l (aggs.drop k):=hz
        by_cases q:k<aggs.length∧0<l.length
        ·obtain⟨q,ql⟩:=q
         rw[List.drop_eq_getElem_cons q,aggE] at hz
         by_cases hx:aggs[k].Kind≠1∨aggs[k].Col≠-1
         ·by_cases hy:aggs[k].Col<0∨(widthF l:Int)≤aggs[k].Col
          ·rw[show placesF l [aggs[k].Col]=3 by rw[place1,if_pos ⟨ql,hy⟩],if_pos ⟨hx,by decide⟩] at hz
           rw[hz]
           ((conv=>whnf);repeat' ((first|(with_reducible first|apply a_|apply b_|apply c_)|((with_reducible first|apply d_|apply e_|apply f_|apply g_);focus first|omega|(simp only[q_]<;>omega))|((with_reducible first|apply i_|apply h_);focus first|omega|(simp only[q_]<;>omega))|((with_reducible apply h_);focus first|decide|kernel_rfl)|refine s_ (by decide) ?_|refine t_ (by decide) ?_|(refine Idx.mapI (f:=AggD.c) k rfl q ?_)|refine r_ pw rfl ?_|with_reducible first|apply l_|apply m_|apply n_|apply o_|refine p_ (fun _=>?_) (fun _=>?_))<;>(conv=>whnf)))
           all_goals first|exact Ret.int rfl | (exfalso;omega)
          ·rw[show placesF l [aggs[k].Col]=0 by rw[place1,if_neg (fun h=>hy h.2)],if_neg (fun h=>h.2 rfl)] at hz
           ((conv=>whnf);repeat' ((first|(with_reducible first|apply a_|apply b_|apply c_)|((with_reducible first|apply d_|apply e_|apply f_|apply g_);focus first|omega|(simp only[q_]<;>omega))|((with_reducible first|apply i_|apply h_);focus first|omega|(simp only[q_]<;>omega))|((with_reducible apply h_);focus first|decide|kernel_rfl)|refine s_ (by decide) ?_|refine t_ (by decide) ?_|(refine Idx.mapI (f:=AggD.c) k rfl q ?_)|refine r_ pw rfl ?_|with_reducible first|apply l_|apply m_|apply n_|apply o_|refine p_ (fun _=>?_) (fun _=>?_))<;>(conv=>whnf)))
           all_goals first
            | exact⟨k+1,⟨q,hz⟩,by omega,[],rfl,rfl,⟨.inl rfl,.inl rfl,PLe.int (by omega),trivial⟩,trivial⟩
            | (exfalso;omega)
            | skip
         ·rw[if_neg (fun h=>hx h.1)] at hz
          ((conv=>whnf);repeat' ((first|(with_reducible first|apply a_|apply b_|apply c_)|((with_reducible first|apply d_|apply e_|apply f_|apply g_);focus first|omega|(simp only[q_]<;>omega))|((with_reducible first|apply i_|apply h_);focus first|omega|(simp only[q_]<;>omega))|((with_reducible apply h_);focus first|decide|kernel_rfl)|refine s_ (by decide) ?_|refine t_ (by decide) ?_|(refine Idx.mapI (f:=AggD.c) k rfl q ?_)|with_reducible first|apply l_|apply m_|apply n_|apply o_|refine p_ (fun _=>?_) (fun _=>?_))<;>(conv=>whnf)))
          all_goals first
           | exact⟨k+1,⟨q,hz⟩,by omega,[],rfl,rfl,⟨.inl rfl,.inl rfl,PLe.int (by omega),trivial⟩,trivial⟩
           | (exfalso;omega)
           | skip
        ·have hz0:R=0:=by
          by_cases ql:0<l.length
          ·rw[hz,List.drop_of_length_le (by omega)];rfl
          ·rw[hz];exact aggE_none (by omega) _
         rw[hz0]
         ((conv=>whnf);repeat' ((first|(with_reducible first|apply a_|apply b_|apply c_)|((with_reducible first|apply d_|apply e_|apply f_|apply g_);focus first|omega|(simp only[q_]<;>omega))|((with_reducible first|apply i_|apply h_);focus first|omega|(simp only[q_]<;>omega))|((with_reducible apply h_);focus first|decide|kernel_rfl)|refine s_ (by decide) ?_|refine t_ (by decide) ?_|with_reducible first|apply l_|apply m_|apply n_|apply o_|refine p_ (fun _=>?_) (fun _=>?_))<;>(conv=>whnf)))
         all_goals first|exact Ret.int rfl | (exfalso;omega) | skip
end
section
open Go.RowKit K
set_option maxRecDepth 100000
set_option maxRecDepth 100000
def outS (kd:Int) (o v:ValueD):ValueD:=if o.Kind=0∨(kd=3∧vOrd v o<0)∨(kd=4∧vOrd o v<0) then v else o
theorem outS_fold {kd:Int} {f:ValueD→ValueD→ValueD} (hf:∀o v,o.Kind≠0→outS kd o v=f o v) (hk:∀o v,f o v=o∨f o v=v):∀(vs:List ValueD) (o:ValueD),o.Kind≠0→(∀v∈vs,v.Kind≠0)→vs.foldl (outS kd) o=vs.foldl f o
 | [],_,_,_=>rfl
 | v::vs,o,ho,hv=>by
  rw[List.foldl_cons,List.foldl_cons,hf o v ho]
  refine outS_fold hf hk vs _ ?_ fun x hx=>hv x (List.mem_cons_of_mem _ hx)
  rcases hk o v with h | h<;>rw[h]
  ·exact ho
  ·exact hv v List.mem_cons_self
theorem outS_min {col:List ValueD} (h:∀v∈col,v.Kind≠0):col.foldl (outS 3) noV=minF col:=by
 cases col with
 | nil=>rfl
 | cons v vs=>
  rw[List.foldl_cons,show outS 3 noV v=v from if_pos (.inl rfl)]
  refine outS_fold (fun o v ho=>?_) (fun o v=>?_) vs v (h v List.mem_cons_self) fun x hx=>h x (List.mem_cons_of_mem _ hx)
  ·unfold outS
   by_cases q:vOrd v o<0
   ·rw[if_pos (.inr (.inl ⟨rfl,q⟩)),if_pos q]
   ·rw[if_neg (by rintro (h | h | h);exact ho h;exact q h.2;exact absurd h.1 (by decide)),if_neg q]
  ·show minS o v=o∨minS o v=v
   unfold minS
   split
   ·exact .inr rfl
   ·exact .inl rfl
theorem outS_max {col:List ValueD} (h:∀v∈col,v.Kind≠0):col.foldl (outS 4) noV=maxF col:=by
 cases col with
 | nil=>rfl
 | cons v vs=>
  rw[List.foldl_cons,show outS 4 noV v=v from if_pos (.inl rfl)]
  refine outS_fold (fun o v ho=>?_) (fun o v=>?_) vs v (h v List.mem_cons_self) fun x hx=>h x (List.mem_cons_of_mem _ hx)
  ·unfold outS
   have hs:=vOrd_swap o v
   by_cases q:0<vOrd v o
   ·rw[if_pos (.inr (.inr ⟨rfl,by omega⟩)),if_pos q]
   ·rw[if_neg (by rintro (h | h | h);exact ho h;exact absurd h.1 (by decide);omega),if_neg q]
  ·show maxS o v=o∨maxS o v=v
   unfold maxS
   split
   ·exact .inr rfl
   ·exact .inl rfl
theorem colF_kind {l:List RowT} {c:Nat}:∀v∈colF l c,v.Kind≠0:=fun v hv=>of_decide_eq_true (List.mem_filter.1 hv).2
theorem fold_in {α:Type} {f:α→α→α} (hk:∀o v,f o v=o∨f o v=v):∀(vs:List α) (o:α),vs.foldl f o=o∨vs.foldl f o∈vs
 | [],o=>.inl rfl
 | v::vs,o=>by
  rw[List.foldl_cons]
  rcases fold_in hk vs (f o v) with h | h
  ·rw[h]
   rcases hk o v with h2 | h2<;>rw[h2]
   ·exact .inl rfl
   ·exact .inr List.mem_cons_self
  ·exact .inr (List.mem_cons_of_mem _ h)
set_option maxHeartbeats 2000000 in
theorem p_toldof (l:List RowT) (a:AggD) (h40:l.length≤40) (hk:1≤a.Kind∧a.Kind≤4) (hc:(a.Kind=1∧a.Col<0)∨l.length=0∨(0≤a.Col∧∀r∈l,a.Col.toNat<r.length∧r.length≤8)) (hN:∀r∈l,∀v∈r,WholeP.In64 v.N) (hT:∀r∈l,∀v∈r,okText v.S) :
  Pure Tryz.prog 20 [rwsV l,aV a] (.tup [vV (tellF l a).1,pInt .i64 (tellF l a).2]):=by
 have hml:(l.map rowC).length=l.length:=List.length_map _
 by_cases h0:a.Kind=1∧a.Col<0
 ·unfold tellF
  rw[if_pos h0]
  refine pure_of Tryz.func20 (by rfl) rfl (by kernel_rfl) (by rfl) ?_
  ((conv=>whnf);repeat' ((first|(with_reducible first|apply a_|apply b_|apply c_)|((with_reducible first|apply d_|apply e_|apply f_|apply g_);focus first|omega|(simp only[q_]<;>omega))|((with_reducible first|apply i_|apply h_);focus first|omega|(simp only[q_]<;>omega))|((with_reducible apply h_);focus first|decide|kernel_rfl)|refine s_ (by decide) ?_|refine t_ (by decide) ?_|with_reducible first|apply l_|apply m_|apply n_|apply o_|refine p_ (fun _=>?_) (fun _=>?_))<;>(conv=>whnf)))
  all_goals first
   | exact Ret.eq (by rw[hml];rfl)
   | exact Ret.eq rfl
   | (exfalso;omega)
   | skip
 ·have hc:=hc.resolve_left h0
  obtain⟨c,hcc⟩:∃c,c=a.Col.toNat:=⟨_,rfl⟩
  have hc2:∀r∈l,a.Col=(c:Int)∧c<r.length∧r.length≤8:=fun r hr=>by
   rcases hc with h | ⟨h,h2⟩
   ·have:=List.length_pos_of_mem hr;omega
   ·have:=h2 r hr;omega
  obtain⟨R,hR⟩:∃R,R=tellF l a:=⟨_,rfl⟩
  rw[← hR]
  unfold tellF at hR
  rw[if_neg h0,← hcc] at hR
  have hcl:=colF_len l c
  have hcN:∀v∈colF l c,WholeP.In64 v.N:=fun v hv=>by
   obtain⟨r,hr,hm⟩:=colF_in hv fun r hr=>(hc2 r hr).2.1
   exact hN r hr v hm
  have hcT:∀k,∀v∈colF (l.take k) c,okText v.S:=fun k v hv=>by
   obtain⟨r,hr,hm⟩:=colF_in hv fun r hr=>(hc2 r (List.mem_of_mem_take hr)).2.1
   exact hT r (List.mem_of_mem_take hr) v hm
  have hstep:∀o v:ValueD,outS a.Kind o v=o∨outS a.Kind o v=v:=fun o v=>by
   unfold outS
   split
   ·exact .inr rfl
   ·exact .inl rfl
  have pto:=p_totalof ((colF l c).map ValueD.N) (fun x hx=>by obtain⟨v,hv,rfl⟩:=List.mem_map.1 hx;exact hcN v hv)
  refine pure_of Tryz.func20 (by rfl) rfl (by kernel_rfl) (by rfl) ?_
  ((conv=>whnf);repeat' ((first|(with_reducible first|apply a_|apply b_|apply c_)|((with_reducible first|apply d_|apply e_|apply f_|apply g_);focus first|omega|(simp only[q_]<;>omega))|((with_reducible first|apply i_|apply h_);focus first|omega|(simp only[q_]<;>omega))|((with_reducible apply h_);focus first|decide|kernel_rfl)|refine s_ (by decide) ?_|refine t_ (by decide) ?_|with_reducible first|apply l_|apply m_|apply n_|apply o_|refine p_ (fun _=>?_) (fun _=>?_))<;>(conv=>whnf)))
  all_goals first | (exfalso;omega) | skip
  all_goals
   refine LoopC.mk Nat (fun k=>[(0,rwsV l),(3,.d (.ptr 3 0)),(4,.d (.ptr 4 0)),(6,pInt .i64 ((colF (l.take k) c).length:Int)),(7,.d (.ptr 7 0)),(8,.d (.app 160 2 1 (((colF (l.take k) c).map ValueD.N).map iC))),(9,pInt .i64 (k:Int))])
    (fun k=>[(3,.box 32 (a.c.map D.c)),(4,.box TV (noV.c.map D.c)),(7,.box TV (((colF (l.take k) c).foldl (outS a.Kind) noV).c.map D.c)),(160,.tail 2 1)]) [3,4,7,160] (fun k=>k≤l.length∧(a.Kind=2→∀v∈colF (l.take k) c,v.Kind=1)) (fun k=>l.length - k) 0 ⟨Nat.zero_le _,fun _ v hv=>absurd hv (by simp[colF])⟩ ?_ ?_
   ·refine⟨[(3,3),(4,4),(7,7)],?_,?_,?_,?_⟩<;>repeat' (first|exact rfl|exact trivial|exact Or.inl rfl|exact PLe.int (by simp[colF]) | exact Nat.zero_lt_succ _|refine And.intro ?_ ?_)
   ·rintro k ⟨hk0,hz⟩
    have hk0:k≤l.length:=hk0
    have hz:a.Kind=2→∀v∈colF (l.take k) c,v.Kind=1:=hz
    by_cases q:k<l.length
    ·obtain⟨hcc2,hck,h8⟩:=hc2 l[k] (List.getElem_mem q)
     have hm0:(l[k].map ValueD.c).length=l[k].length:=List.length_map _
     have hcl:=colF_len (l.take k) c
     rw[List.length_take] at hcl
     have hsn:=colF_snoc q hck
     have hvT:=hT _ (List.getElem_mem q) _ (List.getElem_mem hck)
     obtain⟨o,ho⟩:∃o,o=(colF (l.take k) c).foldl (outS a.Kind) noV:=⟨_,rfl⟩
     have hoT:okText o.S:=by
      rcases fold_in hstep (colF (l.take k) c) noV with h | h
      ·rw[ho,h];exact Nat.zero_le _
      ·rw[ho];exact hcT k _ h
     have p1:=p_vless l[k][c] o hvT hoT
     have p2:=p_vless o l[k][c] hoT hvT
     by_cases hv0:l[k][c].Kind=0
     ·rw[if_neg (not_not_intro hv0),List.append_nil] at hsn
      rw[← hsn] at hz
      ((conv=>whnf);repeat' ((first|(with_reducible first|apply a_|apply b_|apply c_)|((with_reducible first|apply d_|apply e_|apply f_|apply g_);focus first|omega|(simp only[q_]<;>omega))|((with_reducible first|apply i_|apply h_);focus first|omega|(simp only[q_]<;>omega))|((with_reducible apply h_);focus first|decide|kernel_rfl)|refine s_ (by decide) ?_|refine t_ (by decide) ?_|(first|refine Idx.mapI (f:=rowC) k rfl q ?_|refine Idx.mapI (f:=ValueD.c) c hcc2 hck ?_)|with_reducible first|apply l_|apply m_|apply n_|apply o_|refine p_ (fun _=>?_) (fun _=>?_))<;>(conv=>whnf)))
      all_goals first | (exfalso;omega) | skip
      exact⟨k+1,⟨q,hz⟩,by omega,[(3,3),(4,4),(7,7),(160,160)],rfl,rfl,⟨.inl rfl,⟨rfl,rfl,rfl⟩,⟨rfl,rfl,rfl⟩,PLe.int (by rw[hsn]),⟨rfl,rfl,rfl⟩,⟨rfl,rfl,rfl,rfl,by rw[hsn]⟩,PLe.int (by omega),trivial⟩,
       ⟨rfl,kle_of rfl rfl ⟨rfl,.inl rfl,.inl rfl,rfl⟩⟩,⟨rfl,kle_of rfl rfl ⟨rfl,.inl rfl,.inl rfl,.inl rfl,rfl⟩⟩,⟨rfl,kle_of rfl rfl (by rw[hsn];exact⟨rfl,.inl rfl,.inl rfl,.inl rfl,rfl⟩)⟩,⟨rfl,kle_of rfl rfl ⟨rfl,rfl⟩⟩,trivial⟩
     ·rw[if_pos hv0] at hsn
      have hln:(colF (l.take (k+1)) c).length=(colF (l.take k) c).length+1:=by rw[hsn,List.length_append];rfl
      have hnx:(colF (l.take (k+1)) c).foldl (outS a.Kind) noV=outS a.Kind o l[k][c]:=by rw[hsn,List.foldl_append,ho];rfl
      have hiN:((colF (l.take (k+1)) c).map ValueD.N).map iC=((colF (l.take k) c).map ValueD.N).map iC++[iC l[k][c].N]:=by rw[hsn,List.map_append,List.map_append];rfl
      have hin:l[k][c]∈colF l c:=by
       unfold colF
       refine List.mem_filter.2 ⟨List.mem_map.2 ⟨l[k],List.getElem_mem q,?_⟩,decide_eq_true hv0⟩
       rw[List.getElem?_eq_getElem hck];rfl
      rw[← ho]
      by_cases h2:a.Kind=2∧l[k][c].Kind≠1
      ·rw[if_neg (by omega),if_pos h2.1] at hR
       unfold sumF at hR
       rw[if_pos (List.any_eq_true.2 ⟨_,hin,decide_eq_true h2.2⟩)] at hR
       rw[hR]
       ((conv=>whnf);repeat' ((first|(with_reducible first|apply a_|apply b_|apply c_)|((with_reducible first|apply d_|apply e_|apply f_|apply g_);focus first|omega|(simp only[q_]<;>omega))|((with_reducible first|apply i_|apply h_);focus first|omega|(simp only[q_]<;>omega))|((with_reducible apply h_);focus first|decide|kernel_rfl)|refine s_ (by decide) ?_|refine t_ (by decide) ?_|(first|refine Idx.mapI (f:=rowC) k rfl q ?_|refine Idx.mapI (f:=ValueD.c) c hcc2 hck ?_)|with_reducible first|apply l_|apply m_|apply n_|apply o_|refine p_ (fun _=>?_) (fun _=>?_))<;>(conv=>whnf)))
       all_goals first|exact Ret.eq rfl | (exfalso;omega) | skip
      ·have hz2:a.Kind=2→∀v∈colF (l.take (k+1)) c,v.Kind=1:=fun h v hv=>by
        rw[hsn] at hv
        rcases List.mem_append.1 hv with hv | hv
        ·exact hz h v hv
        ·rw[List.mem_singleton.1 hv];omega
       obtain⟨n,hn⟩:∃n,n=outS a.Kind o l[k][c]:=⟨_,rfl⟩
       rw[← hn] at hnx
       have hcs:(o.Kind=0∧n=l[k][c])∨(o.Kind≠0∧a.Kind=3∧vOrd l[k][c] o<0∧n=l[k][c])∨(o.Kind≠0∧a.Kind=3∧¬vOrd l[k][c] o<0∧n=o)∨(o.Kind≠0∧a.Kind=4∧vOrd o l[k][c]<0∧n=l[k][c])∨(o.Kind≠0∧a.Kind=4∧¬vOrd o l[k][c]<0∧n=o)∨(o.Kind≠0∧a.Kind≠3∧a.Kind≠4∧n=o):=by
        unfold outS at hn
        by_cases g1:o.Kind=0
        ·rw[if_pos (.inl g1)] at hn;exact .inl ⟨g1,hn⟩
        ·right
         by_cases g2:a.Kind=3
         ·by_cases g3:vOrd l[k][c] o<0
          ·rw[if_pos (.inr (.inl ⟨g2,g3⟩))] at hn;exact .inl ⟨g1,g2,g3,hn⟩
          ·rw[if_neg (by omega)] at hn;exact .inr (.inl ⟨g1,g2,g3,hn⟩)
         ·by_cases g4:a.Kind=4
          ·by_cases g3:vOrd o l[k][c]<0
           ·rw[if_pos (.inr (.inr ⟨g4,g3⟩))] at hn;exact .inr (.inr (.inl ⟨g1,g4,g3,hn⟩))
           ·rw[if_neg (by omega)] at hn;exact .inr (.inr (.inr (.inl ⟨g1,g4,g3,hn⟩)))
          ·rw[if_neg (by omega)] at hn;exact .inr (.inr (.inr (.inr ⟨g1,g2,g4,hn⟩)))
       clear hn
       rcases hcs with ⟨g1,rfl⟩ | ⟨g1,g2,g3,rfl⟩ | ⟨g1,g2,g3,rfl⟩ | ⟨g1,g2,g3,rfl⟩ | ⟨g1,g2,g3,rfl⟩ | ⟨g1,g2,g3,rfl⟩
       all_goals
        ((conv=>whnf);repeat' ((first|(with_reducible first|apply a_|apply b_|apply c_)|((with_reducible first|apply d_|apply e_|apply f_|apply g_);focus first|omega|(simp only[q_]<;>omega))|((with_reducible first|apply i_|apply h_);focus first|omega|(simp only[q_]<;>omega))|((with_reducible apply h_);focus first|decide|kernel_rfl)|refine s_ (by decide) ?_|refine t_ (by decide) ?_|(first|refine Idx.mapI (f:=rowC) k rfl q ?_|refine Idx.mapI (f:=ValueD.c) c hcc2 hck ?_)|(refine Need.by 8 rfl (by simp only[List.length_map,List.length_singleton];omega) ?_)|refine r_ p1 rfl ?_|refine r_ p2 rfl ?_|with_reducible first|apply l_|apply m_|apply n_|apply o_|refine p_ (fun _=>?_) (fun _=>?_))<;>(conv=>whnf)))
        all_goals first | (exfalso;omega) | skip
        all_goals
         exact⟨k+1,⟨q,hz2⟩,by omega,[(3,3),(4,4),(7,7),(160,56)],rfl,rfl,⟨.inl rfl,⟨rfl,rfl,rfl⟩,⟨rfl,rfl,rfl⟩,PLe.int (by omega),⟨rfl,rfl,rfl⟩,⟨rfl,rfl,rfl,rfl,hiN.symm⟩,PLe.int (by omega),trivial⟩,
          ⟨rfl,kle_of rfl rfl ⟨rfl,.inl rfl,.inl rfl,rfl⟩⟩,⟨rfl,kle_of rfl rfl ⟨rfl,.inl rfl,.inl rfl,.inl rfl,rfl⟩⟩,⟨rfl,kle_of rfl rfl (by rw[hnx];exact⟨rfl,.inl rfl,.inl rfl,.inl rfl,rfl⟩)⟩,⟨rfl,kle_of rfl rfl ⟨rfl,rfl⟩⟩,trivial⟩
    ·have e:l.take k=l:=List.take_of_length_le (by omega)
     rw[e] at hz ⊢
     rcases (by omega:a.Kind=1∨a.Kind=2∨a.Kind=3∨a.Kind=4) with h1 | h1 | h1 | h1
     ·rw[if_pos h1] at hR
      rw[hR]
      ((conv=>whnf);repeat' ((first|(with_reducible first|apply a_|apply b_|apply c_)|((with_reducible first|apply d_|apply e_|apply f_|apply g_);focus first|omega|(simp only[q_]<;>omega))|((with_reducible first|apply i_|apply h_);focus first|omega|(simp only[q_]<;>omega))|((with_reducible apply h_);focus first|decide|kernel_rfl)|refine s_ (by decide) ?_|refine t_ (by decide) ?_|with_reducible first|apply l_|apply m_|apply n_|apply o_|refine p_ (fun _=>?_) (fun _=>?_))<;>(conv=>whnf)))
      all_goals first|exact Ret.eq rfl | (exfalso;omega) | skip
     ·rw[if_neg (by omega),if_pos h1] at hR
      have hz:=hz h1
      have hany:¬((colF l c).any (fun v=>decide (v.Kind≠1))=true):=by
       intro h
       obtain⟨v,hv,hd⟩:=List.any_eq_true.1 h
       exact of_decide_eq_true hd (hz v hv)
      unfold sumF at hR
      rw[if_neg hany] at hR
      by_cases h2:(colF l c).length=0
      ·have h3:=List.eq_nil_of_length_eq_zero h2
       rw[h3] at hR ⊢
       have hR:R=(noV,0):=hR
       rw[hR]
       ((conv=>whnf);repeat' ((first|(with_reducible first|apply a_|apply b_|apply c_)|((with_reducible first|apply d_|apply e_|apply f_|apply g_);focus first|omega|(simp only[q_]<;>omega))|((with_reducible first|apply i_|apply h_);focus first|omega|(simp only[q_]<;>omega))|((with_reducible apply h_);focus first|decide|kernel_rfl)|refine s_ (by decide) ?_|refine t_ (by decide) ?_|with_reducible first|apply l_|apply m_|apply n_|apply o_|refine p_ (fun _=>?_) (fun _=>?_))<;>(conv=>whnf)))
       all_goals first|exact Ret.eq rfl | (exfalso;omega) | skip
      ·by_cases h4:(WholeP.total ((colF l c).map ValueD.N)).2≠0
       ·rw[if_pos (.inl h4)] at hR
        rw[hR]
        ((conv=>whnf);repeat' ((first|(with_reducible first|apply a_|apply b_|apply c_)|((with_reducible first|apply d_|apply e_|apply f_|apply g_);focus first|omega|(simp only[q_]<;>omega))|((with_reducible first|apply i_|apply h_);focus first|omega|(simp only[q_]<;>omega))|((with_reducible apply h_);focus first|decide|kernel_rfl)|refine s_ (by decide) ?_|refine t_ (by decide) ?_|refine r_ pto rfl ?_|with_reducible first|apply l_|apply m_|apply n_|apply o_|refine p_ (fun _=>?_) (fun _=>?_))<;>(conv=>whnf)))
        all_goals first|exact Ret.eq rfl | (exfalso;omega) | skip
       ·rw[if_neg (by omega)] at hR
        rw[hR]
        have h4:(WholeP.total ((colF l c).map ValueD.N)).2=0:=Decidable.of_not_not h4
        rw[h4] at pto
        ((conv=>whnf);repeat' ((first|(with_reducible first|apply a_|apply b_|apply c_)|((with_reducible first|apply d_|apply e_|apply f_|apply g_);focus first|omega|(simp only[q_]<;>omega))|((with_reducible first|apply i_|apply h_);focus first|omega|(simp only[q_]<;>omega))|((with_reducible apply h_);focus first|decide|kernel_rfl)|refine s_ (by decide) ?_|refine t_ (by decide) ?_|refine r_ pto rfl ?_|with_reducible first|apply l_|apply m_|apply n_|apply o_|refine p_ (fun _=>?_) (fun _=>?_))<;>(conv=>whnf)))
        all_goals first|exact Ret.eq rfl | (exfalso;omega) | skip
     ·rw[if_neg (by omega),if_neg (by omega),if_pos h1] at hR
      have hm:R=(minF (colF l c),0):=by
       rw[hR]
       split
       ·rename_i h;rw[List.eq_nil_of_length_eq_zero h];rfl
       ·rfl
      rw[hm,← outS_min colF_kind,← h1]
      ((conv=>whnf);repeat' ((first|(with_reducible first|apply a_|apply b_|apply c_)|((with_reducible first|apply d_|apply e_|apply f_|apply g_);focus first|omega|(simp only[q_]<;>omega))|((with_reducible first|apply i_|apply h_);focus first|omega|(simp only[q_]<;>omega))|((with_reducible apply h_);focus first|decide|kernel_rfl)|refine s_ (by decide) ?_|refine t_ (by decide) ?_|with_reducible first|apply l_|apply m_|apply n_|apply o_|refine p_ (fun _=>?_) (fun _=>?_))<;>(conv=>whnf)))
      all_goals first|exact Ret.eq rfl | (exfalso;omega) | skip
     ·rw[if_neg (by omega),if_neg (by omega),if_neg (show ¬a.Kind=3 by omega)] at hR
      have hm:R=(maxF (colF l c),0):=by
       rw[hR]
       split
       ·rename_i h;rw[List.eq_nil_of_length_eq_zero h];rfl
       ·rfl
      rw[hm,← outS_max colF_kind,← h1]
      ((conv=>whnf);repeat' ((first|(with_reducible first|apply a_|apply b_|apply c_)|((with_reducible first|apply d_|apply e_|apply f_|apply g_);focus first|omega|(simp only[q_]<;>omega))|((with_reducible first|apply i_|apply h_);focus first|omega|(simp only[q_]<;>omega))|((with_reducible apply h_);focus first|decide|kernel_rfl)|refine s_ (by decide) ?_|refine t_ (by decide) ?_|with_reducible first|apply l_|apply m_|apply n_|apply o_|refine p_ (fun _=>?_) (fun _=>?_))<;>(conv=>whnf)))
      all_goals first|exact Ret.eq rfl | (exfalso;omega) | skip
end
section
open Go.RowKit K
set_option maxRecDepth 100000
set_option maxRecDepth 100000
def keyAt (by_:List Int) (l:List RowT) (i:Nat):RowT:=match l[i]? with
 | some r=>keyOfR by_ r
 | none=>[]
def oldAt (by_:List Int) (l:List RowT) (i k:Nat):Bool:=(l.take (min k i)).any fun r=>decide (keyOfR by_ r=keyAt by_ l i)
theorem keysE_none {l:List RowT} (hl:l≠[]):keysE [] l=[[]]:=by
 have:∀m:List RowT,keysE [] (m++l)=keysE [] l∨True:=fun _=>.inr trivial
 induction l using snoc_ind0 with
 | h0=>exact absurd rfl hl
 | h l r ih=>
  rw[keysE_snoc,keyOfR_nil]
  by_cases h:l=[]
  ·rw[h];rfl
  ·rw[ih h (fun _=>.inr trivial)];rfl
theorem partsF_all {by_:List Int} {l:List RowT} (h:l≠[]∨by_≠[]):partsF by_ l=(keysE by_ l).map fun k=>(k,ofK by_ l k):=by
 by_cases hb:by_=[]
 ·subst hb
  have hl:=h.resolve_right fun h=>h rfl
  rw[partsF_nil,keysE_none hl]
  have:ofK [] l []=l:=List.filter_eq_self.2 fun r _=>decide_eq_true rfl
  rw[List.map_singleton,this]
 ·exact partsF_keys hb l
theorem keysE_pre (by_:List Int) (l m:List RowT):keysE by_ l <+: keysE by_ (l++m):=by
 induction m using snoc_ind0 with
 | h0=>rw[List.append_nil];exact List.prefix_refl _
 | h m r ih=>
  rw[← List.append_assoc,keysE_snoc]
  split
  ·exact ih
  ·exact ih.trans (List.prefix_append _ _)
theorem grp_walk (by_:List Int) (l:List RowT):∃c:Nat→Nat,c 0=0∧(∀i,i<l.length∨(i=0∧by_=[])→(oldAt by_ l i l.length=true∧c (i+1)=c i)∨(oldAt by_ l i l.length=false∧c (i+1)=c i+1∧(partsF by_ l)[c i]? = some (keyAt by_ l i,ofK by_ l (keyAt by_ l i))))∧
  ∀i,¬(i<l.length∨(i=0∧by_=[]))→c i=(partsF by_ l).length:=by
 by_cases hl:l=[]
 ·subst hl
  refine⟨fun i=>if i=0 then 0 else (partsF by_ []).length,rfl,fun i hi=>?_,fun i hi=>?_⟩
  ·obtain⟨rfl,rfl⟩:i=0∧by_=[]:=by
    rcases hi with hi | hi
    ·exact absurd hi (Nat.not_lt_zero _)
    ·exact hi
   exact .inr ⟨rfl,rfl,rfl⟩
  ·show (if i=0 then 0 else _)=_
   split
   ·have hb:by_≠[]:=fun h=>hi (.inr ⟨by assumption,h⟩)
    rw[partsF_keys hb];rfl
   ·rfl
 ·have hP:=partsF_all (by_:=by_) (.inl hl)
  have hPl:(partsF by_ l).length=(keysE by_ l).length:=by rw[hP,List.length_map]
  refine⟨fun i=>(keysE by_ (l.take i)).length,rfl,fun i hi=>?_,fun i hi=>?_⟩
  ·have hil:i<l.length:=by
    rcases hi with hi | ⟨rfl,_⟩
    ·exact hi
    ·exact List.length_pos_iff.2 hl
   have hk:keyAt by_ l i=keyOfR by_ l[i]:=by unfold keyAt;rw[List.getElem?_eq_getElem hil]
   have ho:oldAt by_ l i l.length=decide (keyAt by_ l i∈keysE by_ (l.take i)):=by
    unfold oldAt
    rw[Nat.min_eq_right (by omega),Bool.eq_iff_iff,List.any_eq_true,decide_eq_true_iff,keysE_mem]
    constructor
    ·rintro⟨r,hr,h⟩;exact⟨r,hr,of_decide_eq_true h⟩
    ·rintro⟨r,hr,h⟩;exact⟨r,hr,decide_eq_true h⟩
   have hs:keysE by_ (l.take (i+1))=if keyAt by_ l i∈keysE by_ (l.take i) then keysE by_ (l.take i) else keysE by_ (l.take i)++[keyAt by_ l i]:=by
    rw[take_snoc hil,keysE_snoc,hk]
   rw[ho]
   by_cases hm:keyAt by_ l i∈keysE by_ (l.take i)
   ·left
    rw[if_pos hm] at hs
    exact⟨decide_eq_true hm,congrArg List.length hs⟩
   ·right
    rw[if_neg hm] at hs
    refine⟨decide_eq_false hm,by show (keysE by_ (l.take (i+1))).length=_;rw[hs,List.length_append];rfl,?_⟩
    obtain⟨t,ht⟩:=keysE_pre by_ (l.take (i+1)) (l.drop (i+1))
    rw[List.take_append_drop,hs] at ht
    rw[hP,List.getElem?_map,← ht,List.append_assoc,List.getElem?_append_right (Nat.le_refl _),Nat.sub_self]
    rfl
  ·show (keysE by_ (l.take i)).length=_
   rw[hPl,List.take_of_length_le (by omega)]
theorem old_step {by_:List Int} {l:List RowT} {i k:Nat} (h:k<l.length):oldAt by_ l i (k+1)=(oldAt by_ l i k||(decide (k<i)&&decide (keyOfR by_ l[k]=keyAt by_ l i))):=by
 unfold oldAt
 by_cases q:k<i
 ·rw[Nat.min_eq_left (by omega),Nat.min_eq_left (by omega),take_snoc h,List.any_append,decide_eq_true q,Bool.true_and]
  simp only[List.any_cons,List.any_nil,Bool.or_false]
 ·rw[Nat.min_eq_right (by omega),Nat.min_eq_right (by omega),decide_eq_false q,Bool.false_and,Bool.or_false]
theorem keyAt_in {by_:List Int} {l:List RowT} {i:Nat} (h:i<l.length):keyAt by_ l i=keyOfR by_ l[i]:=by unfold keyAt;rw[List.getElem?_eq_getElem h]
theorem keyAt_out {by_:List Int} {l:List RowT} {i:Nat} (h:l.length≤i):keyAt by_ l i=[]:=by unfold keyAt;rw[List.getElem?_eq_none h]
theorem ofK_in {by_:List Int} {l:List RowT} {k r:RowT} (h:r∈ofK by_ l k):r∈l:=(List.mem_filter.1 h).1
theorem ofK_len (by_:List Int) (l:List RowT) (k:RowT):(ofK by_ l k).length≤l.length:=List.length_filter_le _ _
end
section
open Go.RowKit K
set_option maxRecDepth 100000
set_option maxRecDepth 100000
abbrev prE (l:List RowT) (by_:List Int) (out:D) (k:Nat):List (Nat×PV):=[(1,slV 1 iC by_),(5,.d out),(18,rwsV l),(19,pInt .i64 l.length),(20,pInt .i64 (k:Int))]
abbrev inE (l:List RowT) (by_:List Int) (out:D) (k:Nat) (r:RowT) (j:Nat):List (Nat×PV):=[(7,slV 3 ValueD.c r),(8,.d (.ptr 8 0)),(24,slV 1 iC by_),(25,pInt .i64 by_.length),(26,pInt .i64 (j:Int))]++prE l by_ out k
abbrev keyH (K:List ValueD) (j:Nat):Rf:=[(8,.box TES [.app 161 TV 3 ((K.take j).map ValueD.c)]),(161,.tail TV 3)]
abbrev focH (i N:Nat) (p:PartD):Rf:=[(151,.darr TPA 1 (ptrsF i N)),(900,.box TP [.app 901 TV 3 (p.1.map ValueD.c),.app 902 TES 1 (p.2.map rowC)]),(901,.tail TV 3),(902,.tail TES 1)]
abbrev nOut:List Nat:=151::gkeys
abbrev nIn:List Nat:=[8,161,151,900,901,902]++gkeys
theorem gk_out {j:Nat} (h:j<40):kin (j+1000) nOut=true∧kin (j+2000) nOut=true∧kin (j+3000) nOut=true:=gk_in h [151]
theorem gk_inn {j:Nat} (h:j<40):kin (j+1000) nIn=true∧kin (j+2000) nIn=true∧kin (j+3000) nIn=true:=gk_in h [8,161,151,900,901,902]
theorem keyOf_step {by_:List Int} {r:RowT} {j:Nat} (h:j<by_.length):(keyOfR by_ r).take (j+1)=(keyOfR by_ r).take j++[r.getD by_[j].toNat noV]:=by
 have h2:j<(keyOfR by_ r).length:=by rw[keyOfR_len];exact h
 have e:(keyOfR by_ r)[j]=r.getD by_[j].toNat noV:=List.getElem_map ..
 rw[take_snoc h2,e]
abbrev partsOut (ps:List PartD):Rf:=(151,.darr TPA 1 (ptrsN ps.length))::famL ps
set_option maxHeartbeats 2000000 in
theorem s_partsN (l:List RowT) (by_:List Int) (h40:l.length≤40) (hb8:by_.length≤8) (hy:∀r∈l,r.length≤8∧∀c∈by_,0≤c∧c.toNat<r.length) :
  CallS Tryz.prog 16 [rwsV l,slV 1 iC by_] [] [] (.d (.arr 151 TPA 1 0 (partsF by_ l).length)) (partsOut (partsF by_ l)):=by
 have hml:(l.map rowC).length=l.length:=List.length_map _
 have hmb:(by_.map iC).length=by_.length:=List.length_map _
 refine callS_of Tryz.func16 (by rfl) rfl (by kernel_rfl) (by rfl) [] rfl ?_
 rcases Decidable.em (by_=[]) with hbn | hbn
 case' inl=>
  have hb0:by_.length=0:=by rw[hbn];rfl
  ((conv=>whnf);repeat' ((first|(with_reducible first|apply a_|apply b_|apply c_)|((with_reducible first|apply d_|apply e_|apply f_|apply g_);focus first|omega|(simp only[q_]<;>omega))|((with_reducible first|apply i_|apply h_);focus first|omega|(simp only[q_]<;>omega))|((with_reducible apply h_);focus first|decide|kernel_rfl)|refine s_ (by decide) ?_|refine t_ (by decide) ?_|with_reducible first|apply l_|apply m_|apply n_|apply o_|refine p_ (fun _=>?_) (fun _=>?_))<;>(conv=>whnf)))
  refine LoopC.mk (Nat×List PartD) (fun s=>prE l by_ (.arr 151 TPA 1 0 s.2.length) s.1) (fun s=>partsOut s.2) nOut (fun s=>s.1≤l.length∧s.2=partsF by_ (l.take s.1)) (fun s=>l.length - s.1) (0,[([],[])]) ⟨Nat.zero_le _,by unfold partsF;rw[List.take_zero,List.foldl_nil,if_pos hbn]⟩ ?_ ?_
  ·refine⟨[(151,17),(1000,16)],rfl,rfl,?_,?_⟩<;>repeat' (first|exact rfl|exact trivial|exact Or.inl rfl|exact PLe.int (by simp) | exact Nat.zero_lt_succ _|refine And.intro ?_ ?_)
 case' inr=>
  have hb0:by_.length≠0:=fun h=>hbn (List.eq_nil_of_length_eq_zero h)
  ((conv=>whnf);repeat' ((first|(with_reducible first|apply a_|apply b_|apply c_)|((with_reducible first|apply d_|apply e_|apply f_|apply g_);focus first|omega|(simp only[q_]<;>omega))|((with_reducible first|apply i_|apply h_);focus first|omega|(simp only[q_]<;>omega))|((with_reducible apply h_);focus first|decide|kernel_rfl)|refine s_ (by decide) ?_|refine t_ (by decide) ?_|with_reducible first|apply l_|apply m_|apply n_|apply o_|refine p_ (fun _=>?_) (fun _=>?_))<;>(conv=>whnf)))
  refine LoopC.mk (Nat×List PartD) (fun s=>prE l by_ (.arr 151 TPA 1 0 s.2.length) s.1) (fun s=>partsOut s.2) nOut (fun s=>s.1≤l.length∧s.2=partsF by_ (l.take s.1)) (fun s=>l.length - s.1) (0,[]) ⟨Nat.zero_le _,by unfold partsF;rw[List.take_zero,List.foldl_nil,if_neg hbn]⟩ ?_ ?_
  ·refine⟨[],rfl,rfl,?_,?_⟩<;>repeat' (first|exact rfl|exact trivial|exact Or.inl rfl|exact PLe.int (by simp) | exact Nat.zero_lt_succ _|refine And.intro ?_ ?_)
 all_goals
  rintro⟨k,P⟩ ⟨hk,hP⟩
  have hk:k≤l.length:=hk
  have hP:P=partsF by_ (l.take k):=hP
  have hPk:∀p∈P,p.1.length≤1000:=fun p hp=>by
   have:=parts_keys by_ (l.take k) p (hP ▸ hp)
   omega
  have hPl:P.length≤k∨P.length=1:=by
   rcases parts_len by_ (l.take k) with h | ⟨_,h⟩
   ·left;rw[← hP,List.length_take] at h;omega
   ·right;rw[hP];exact h
  have hPl40:P.length≤40:=by omega
  have look:∀q∈famL P,hpL (partsOut P) q.1=some q.2:=fun q hq=>hp_past (a:=[(151,_)]) hPl40 (fun q hq=>by rw[List.mem_singleton.1 hq];exact .inl (show 151<1000 by decide)) hq
  by_cases q:k<l.length
  ·obtain⟨h8,hc⟩:=hy l[k] (List.getElem_mem q)
   have hm0:(l[k].map ValueD.c).length=l[k].length:=List.length_map _
   obtain⟨K,hK⟩:∃K,K=keyOfR by_ l[k]:=⟨_,rfl⟩
   have hKl:K.length=by_.length:=by rw[hK,keyOfR_len]
   have hnx:=partsF_snoc by_ l q
   rw[← hP,← hK] at hnx
   cases hf:findP P K with
   | none=>
    rw[putP_new hf] at hnx
    have hPl39:P.length<40:=by
     by_cases hb1:P.length≤k
     ·omega
     ·omega
    have hfi:findI P K=-1:=by unfold findI;rw[hf]
    ((conv=>whnf);repeat' ((first|(with_reducible first|apply a_|apply b_|apply c_)|((with_reducible first|apply d_|apply e_|apply f_|apply g_);focus first|omega|(simp only[q_]<;>omega))|((with_reducible first|apply i_|apply h_);focus first|omega|(simp only[q_]<;>omega))|((with_reducible apply h_);focus first|decide|kernel_rfl)|refine s_ (by decide) ?_|refine t_ (by decide) ?_|(refine Idx.mapI (f:=rowC) k rfl q ?_)|with_reducible first|apply l_|apply m_|apply n_|apply o_|refine p_ (fun _=>?_) (fun _=>?_))<;>(conv=>whnf)))
    refine LoopC.mk Nat (fun j=>inE l by_ (.arr 151 TPA 1 0 P.length) k l[k] j) (fun j=>(keyH K j++[(151,.darr TPA 1 (ptrsN P.length))])++famL P) nIn (fun j=>j≤by_.length) (fun j=>by_.length - j) 0 (Nat.zero_le _) ?_ ?_
    ·have hpre:∀q∈[(8,8),(151,151)],∀k∈keysX noP P,q.1≠k:=by
      intro q hq k hk
      obtain⟨j,h1,h2,h3⟩:=keysX_in.1 hk
      simp only[List.mem_cons,List.not_mem_nil,or_false] at hq
      rcases hq with rfl | rfl<;>(show _≠_;simp only;omega)
     refine wk_fam [(8,8),(151,151)] (keyH K 0++[(151,.darr TPA 1 (ptrsN P.length))]) noP P (fun a=>a) hpre ?_ (fun _ _=>rfl) (fun j hj=>gk_inn (by omega)) ?_ ?_ ?_
     ·intro q hq a ha
      simp only[List.cons_append,List.nil_append,List.mem_cons,List.not_mem_nil,or_false] at hq
      rcases hq with rfl | rfl | rfl
      ·have ha:some 8=some a:=ha
       cases ha;rfl
      ·have ha:=(fn_out (pre:=[(8,8),(151,151)]) rfl (by decide)).symm.trans ha
       cases ha
      ·have ha:some 151=some a:=ha
       cases ha;rfl
     ·intro q hq
      have hb:=famX_big hq
      repeat refine app_far rfl hb ?_
      exact look q hq
     ·have fN:fnL ([(8,8),(151,151)]++idR (keysX noP P)) 161=none:=fn_out rfl (by decide)
      refine⟨⟨rfl,kle_of rfl rfl ⟨rfl,⟨rfl,fN,by decide,rfl,rfl⟩,rfl⟩⟩,⟨rfl,?_⟩,⟨rfl,kle_of rfl rfl ⟨rfl,rfl,dless_map fun j hj=>?_⟩⟩,trivial⟩
      ·unfold KLe;rw[fN];exact Nat.zero_lt_succ _
      ·have hj:=List.mem_range.1 hj
       exact⟨(gk_inn (by omega)).1,fn_X hpre (keysX_in.2 ⟨j,hj,by show j≠5000;omega,.inl rfl⟩)⟩
     ·exact⟨.inl rfl,⟨rfl,rfl,rfl⟩,.inl rfl,PLe.int (by simp),.inl rfl,.inl rfl,⟨rfl,rfl,rfl,rfl,rfl,rfl⟩,.inl rfl,.inl rfl,.inl rfl,trivial⟩
    ·intro j hj
     have hj:j≤by_.length:=hj
     have lookI:∀q∈famL P,hpL ((keyH K j++[(151,.darr TPA 1 (ptrsN P.length))])++famL P) q.1=some q.2:=fun q hq=>hp_past hPl40 (fun q hq=>by
      simp only[List.cons_append,List.nil_append,List.mem_cons,List.not_mem_nil,or_false] at hq
      rcases hq with rfl | rfl | rfl<;>exact .inl (by show _<_;simp only;omega)) hq
     by_cases qj:j<by_.length
     ·obtain⟨c1,c2⟩:=hc _ (List.getElem_mem qj)
      have cc:by_[j]=(by_[j].toNat:Int):=by omega
      have hst:=keyOf_step (r:=l[k]) qj
      rw[← hK,List.getD_eq_getElem?_getD,List.getElem?_eq_getElem c2,Option.getD_some] at hst
      ((conv=>whnf);repeat' ((first|(with_reducible first|apply a_|apply b_|apply c_)|((with_reducible first|apply d_|apply e_|apply f_|apply g_);focus first|omega|(simp only[q_]<;>omega))|((with_reducible first|apply i_|apply h_);focus first|omega|(simp only[q_]<;>omega))|((with_reducible apply h_);focus first|decide|kernel_rfl)|refine s_ (by decide) ?_|refine t_ (by decide) ?_|(first|refine Idx.mapI (f:=iC) j rfl qj ?_|refine Idx.mapI (f:=ValueD.c) by_[j].toNat cc c2 ?_)|(refine Need.by 32 rfl (by simp only[List.length_map,List.length_take,List.length_singleton];omega) ?_)|with_reducible first|apply l_|apply m_|apply n_|apply o_|refine p_ (fun _=>?_) (fun _=>?_))<;>(conv=>whnf)))
      all_goals first | (exfalso;omega) | skip
      all_goals
       have hpre:∀q∈[(8,8),(161,36),(151,151)],∀k∈keysX noP P,q.1≠k:=by
        intro q hq k hk
        obtain⟨j,h1,h2,h3⟩:=keysX_in.1 hk
        simp only[List.mem_cons,List.not_mem_nil,or_false] at hq
        rcases hq with rfl | rfl | rfl<;>(show _≠_;simp only;omega)
       refine⟨j+1,qj,by omega,wk_fam [(8,8),(161,36),(151,151)] (keyH K (j+1)++[(151,.darr TPA 1 (ptrsN P.length))]) noP P (fun a=>if a=36 then 161 else a) hpre ?_ ?_ (fun j hj=>gk_inn (by omega)) ?_ ?_ ?_⟩
       ·intro q hq a ha
        simp only[List.cons_append,List.nil_append,List.mem_cons,List.not_mem_nil,or_false] at hq
        rcases hq with rfl | rfl | rfl<;>(have ha:some _=some a:=ha;cases ha;rfl)
       ·intro k hk
        obtain⟨j,h1,h2,h3⟩:=keysX_in.1 hk
        exact if_neg (by omega)
       ·intro q hq
        have hb:=famX_big hq
        repeat refine app_far rfl hb ?_
        exact lookI q hq
       ·refine⟨⟨rfl,kle_of rfl rfl ⟨rfl,⟨rfl,rfl,rfl,rfl,?_⟩,rfl⟩⟩,⟨rfl,kle_of rfl rfl ⟨rfl,rfl⟩⟩,⟨rfl,kle_of rfl rfl ⟨rfl,rfl,dless_map fun j hj=>?_⟩⟩,trivial⟩
        ·rw[hst,List.map_append];rfl
        ·have hj:=List.mem_range.1 hj
         exact⟨(gk_inn (by omega)).1,fn_X hpre (keysX_in.2 ⟨j,hj,by show j≠5000;omega,.inl rfl⟩)⟩
       ·exact⟨.inl rfl,⟨rfl,rfl,rfl⟩,.inl rfl,.inl rfl,PLe.int (by omega),.inl rfl,⟨rfl,rfl,rfl,rfl,rfl,rfl⟩,.inl rfl,.inl rfl,.inl rfl,trivial⟩
     ·have e:K.take j=K:=List.take_of_length_le (by omega)
      have hG:∀j' p,P[j']? = some p→hpL ((keyH K j++[(151,.darr TPA 1 (ptrsN P.length))])++famL P) (foc 5000 (j'+1000))=some (boxG (foc 5000) j' p)∧hpL ((keyH K j++[(151,.darr TPA 1 (ptrsN P.length))])++famL P) (foc 5000 (j'+2000))=some (.tail TV 3)∧hpL ((keyH K j++[(151,.darr TPA 1 (ptrsN P.length))])++famL P) (foc 5000 (j'+3000))=some (.tail TES 1):=by
       intro j' p hp
       have hj':=(List.getElem?_eq_some_iff.1 hp).1
       have hE':=fun q hq=>famX_in (x:=noP) (i0:=0) hp (by show 0+j'≠5000;omega) q hq
       rw[Nat.zero_add] at hE'
       unfold boxG
       rw[foc_ne (i:=5000) (k:=j'+1000) (by omega) (by omega) (by omega),foc_ne (i:=5000) (k:=j'+2000) (by omega) (by omega) (by omega),foc_ne (i:=5000) (k:=j'+3000) (by omega) (by omega) (by omega)]
       exact⟨lookI _ (hE' _ List.mem_cons_self),lookI _ (hE' _ (List.mem_cons_of_mem _ List.mem_cons_self)),lookI _ (hE' _ (List.mem_cons_of_mem _ (List.mem_cons_of_mem _ List.mem_cons_self)))⟩
      have hpn:=ptrsN_len P.length
      have lR:((ptrsN P.length).take P.length++[[D.ptr 48 0]])[0+((P.length:Nat):Int).toNat]? = some [D.ptr 48 0]:=by
       rw[List.take_of_length_le (Nat.le_of_eq hpn),Nat.zero_add,Int.toNat_natCast,List.getElem?_append_right (by rw[hpn];omega),hpn,Nat.sub_self];rfl
      ((conv=>whnf);repeat' ((first|(with_reducible first|apply a_|apply b_|apply c_)|((with_reducible first|apply d_|apply e_|apply f_|apply g_);focus first|omega|(simp only[q_]<;>omega))|((with_reducible first|apply i_|apply h_);focus first|omega|(simp only[q_]<;>omega))|((with_reducible apply h_);focus first|decide|kernel_rfl)|refine s_ (by decide) ?_|refine t_ (by decide) ?_|(refine call_index 5000 P hPl40 (.inr rfl) hPk K hfi (by rw[ptrsF_no hPl40];rfl) (by show some (HB.box TES [D.app 161 TV 3 ((K.take j).map ValueD.c)])=_;rw[e]) rfl hG fun rf=>?_)|(refine Row.mk [.ptr 48 0] lR ?_)|(refine Need.by 8 rfl (by omega) ?_)|(refine Need.by 24 rfl (by simp) ?_)|with_reducible first|apply l_|apply m_|apply n_|apply o_|refine p_ (fun _=>?_) (fun _=>?_))<;>(conv=>whnf)))
      all_goals first | (exfalso;omega) | skip
      obtain⟨g1,g2,g3⟩:=gk_out hPl39
      have hpre:∀q∈[(151,50),(P.length+1000,48),(P.length+2000,161),(P.length+3000,64)],∀k∈keysX noP P,q.1≠k:=by
       intro q hq k hk
       obtain⟨j,h1,h2,h3⟩:=keysX_in.1 hk
       simp only[List.mem_cons,List.not_mem_nil,or_false] at hq
       rcases hq with rfl | rfl | rfl | rfl<;>(show _≠_;simp only;omega)
      have f1:fnL ([(151,50),(P.length+1000,48),(P.length+2000,161),(P.length+3000,64)]++idR (keysX noP P)) (P.length+1000)=some 48:=(fnL_skip (by omega)).trans fnL_hit
      have f2:fnL ([(151,50),(P.length+1000,48),(P.length+2000,161),(P.length+3000,64)]++idR (keysX noP P)) (P.length+2000)=some 161:=(fnL_skip (by omega)).trans ((fnL_skip (by omega)).trans fnL_hit)
      have f3:fnL ([(151,50),(P.length+1000,48),(P.length+2000,161),(P.length+3000,64)]++idR (keysX noP P)) (P.length+3000)=some 64:=(fnL_skip (by omega)).trans ((fnL_skip (by omega)).trans ((fnL_skip (by omega)).trans fnL_hit))
      refine⟨(k+1,P++[(K,[l[k]])]),⟨q,hnx.symm⟩,by show l.length - (k+1)<l.length - k;omega,wk_sub (wk_fam [(151,50),(P.length+1000,48),(P.length+2000,161),(P.length+3000,64)] ((151,.darr TPA 1 (ptrsN (P.length+1)))::famE P.length (K,[l[k]])) noP P (fun a=>if a=50 then 151 else if a=48 then P.length+1000 else if a=161 then P.length+2000 else if a=64 then P.length+3000 else a) hpre ?_ ?_ (fun j hj=>gk_out (by omega)) ?_ ?_ ?_) ?_⟩
      ·intro q hq a ha
       simp only[famE,List.mem_cons,List.not_mem_nil,or_false] at hq
       rcases hq with rfl | rfl | rfl | rfl
       ·have ha:some _=some a:=ha
        cases ha;rfl
       ·cases f1.symm.trans ha;rfl
       ·cases f2.symm.trans ha;rfl
       ·cases f3.symm.trans ha;rfl
      ·intro k hk
       obtain⟨j,h1,h2,h3⟩:=keysX_in.1 hk
       show (if k=50 then _ else _)=k
       rw[if_neg (by omega),if_neg (by omega),if_neg (by omega),if_neg (by omega)]
      ·intro q hq
       have hb:=famX_big hq
       repeat refine app_far rfl hb ?_
       exact lookI q hq
      ·refine⟨⟨rfl,kle_of rfl rfl ⟨rfl,rfl,?_⟩⟩,⟨g1,kle_of f1 rfl ⟨rfl,⟨g2,f2,rfl,rfl,?_⟩,⟨g3,f3,rfl,rfl,rfl⟩,rfl⟩⟩,⟨g2,kle_of f2 rfl ⟨rfl,rfl⟩⟩,⟨g3,kle_of f3 rfl ⟨rfl,rfl⟩⟩,trivial⟩
       ·rw[ptrsN_succ,List.take_of_length_le (Nat.le_of_eq hpn)]
        refine dless_join (dless_map fun j hj=>?_) ⟨⟨⟨g1,f1,rfl⟩,rfl⟩,rfl⟩
        have hj:=List.mem_range.1 hj
        exact⟨(gk_out (by omega)).1,fn_X hpre (keysX_in.2 ⟨j,hj,by show j≠5000;omega,.inl rfl⟩)⟩
       ·rw[e]
      ·exact⟨.inl rfl,⟨rfl,rfl,rfl,rfl,rfl,by show P.length+1=(P++[_]).length;rw[List.length_append];rfl⟩,.inl rfl,.inl rfl,PLe.int (by show _=((k+1:Nat):Int);omega),trivial⟩
      ·intro q hq
       have hq:q∈(151,HB.darr TPA 1 (ptrsN (P++[(K,[l[k]])]).length))::famL (P++[(K,[l[k]])]):=hq
       rw[List.length_append] at hq
       rcases List.mem_cons.1 hq with rfl | hq
       ·exact List.mem_cons_self
       ·rcases fam_new hPl40 hq with hq | hq
        ·exact List.mem_append_left _ (List.mem_cons_of_mem _ hq)
        ·exact List.mem_append_right _ hq
   | some i=>
    obtain⟨hi,hik,_⟩:=findP_some hf
    rw[putP_hit hf hi] at hnx
    have hi40:i<40:=by omega
    ((conv=>whnf);repeat' ((first|(with_reducible first|apply a_|apply b_|apply c_)|((with_reducible first|apply d_|apply e_|apply f_|apply g_);focus first|omega|(simp only[q_]<;>omega))|((with_reducible first|apply i_|apply h_);focus first|omega|(simp only[q_]<;>omega))|((with_reducible apply h_);focus first|decide|kernel_rfl)|refine s_ (by decide) ?_|refine t_ (by decide) ?_|(refine Idx.mapI (f:=rowC) k rfl q ?_)|with_reducible first|apply l_|apply m_|apply n_|apply o_|refine p_ (fun _=>?_) (fun _=>?_))<;>(conv=>whnf)))
    have hE:=fun q hq=>famX_in (x:=noP) (i0:=0) (List.getElem?_eq_getElem hi) (by show 0+i≠5000;omega) q hq
    rw[Nat.zero_add] at hE
    refine LoopC.mk Nat (fun j=>inE l by_ (.arr 151 TPA 1 0 P.length) k l[k] j) (fun j=>keyH K j++focH i P.length P[i]++famX i 0 P) nIn (fun j=>j≤by_.length) (fun j=>by_.length - j) 0 (Nat.zero_le _) ?_ ?_
    ·have hpre:∀q∈[(8,8),(151,151),(900,i+1000),(901,i+2000),(902,i+3000)],∀k∈keysX i P,q.1≠k:=by
      intro q hq k hk
      obtain⟨j,h1,h2,h3⟩:=keysX_in.1 hk
      simp only[List.mem_cons,List.not_mem_nil,or_false] at hq
      rcases hq with rfl | rfl | rfl | rfl | rfl<;>(show _≠_;simp only;omega)
     refine wk_fam [(8,8),(151,151),(900,i+1000),(901,i+2000),(902,i+3000)] (keyH K 0++focH i P.length P[i]) i P (foc i) hpre ?_ ?_ (fun j hj=>gk_inn (by omega)) ?_ ?_ ?_
     ·intro q hq a ha
      simp only[List.cons_append,List.nil_append,List.mem_cons,List.not_mem_nil,or_false] at hq
      rcases hq with rfl | rfl | rfl | rfl | rfl | rfl
      ·have ha:some 8=some a:=ha
       cases ha
       exact foc_ne (by omega) (by omega) (by omega)
      ·have ha:=(fn_out (pre:=[(8,8),(151,151),(900,i+1000),(901,i+2000),(902,i+3000)]) rfl (by decide)).symm.trans ha
       cases ha
      ·have ha:some 151=some a:=ha
       cases ha
       exact foc_ne (by omega) (by omega) (by omega)
      ·have ha:some (i+1000)=some a:=ha
       cases ha
       exact foc_B i
      ·have ha:some (i+2000)=some a:=ha
       cases ha
       exact foc_T i
      ·have ha:some (i+3000)=some a:=ha
       cases ha
       exact foc_R i
     ·intro k hk
      obtain⟨j,h1,h2,h3⟩:=keysX_in.1 hk
      exact foc_ne (by omega) (by omega) (by omega)
     ·intro q hq
      have hb:=famX_big hq
      repeat refine app_far rfl hb ?_
      exact look _ (famX_sub (fun j hj _=>by show j≠5000;omega) hq)
     ·have l1:=look _ (hE _ List.mem_cons_self)
      have l2:=look _ (hE _ (List.mem_cons_of_mem _ List.mem_cons_self))
      have l3:=look _ (hE _ (List.mem_cons_of_mem _ (List.mem_cons_of_mem _ List.mem_cons_self)))
      have fN:fnL ([(8,8),(151,151),(900,i+1000),(901,i+2000),(902,i+3000)]++idR (keysX i P)) 161=none:=fn_out rfl (by decide)
      refine⟨⟨rfl,kle_of rfl rfl ⟨rfl,⟨rfl,fN,by decide,rfl,rfl⟩,rfl⟩⟩,⟨rfl,?_⟩,⟨rfl,kle_of rfl rfl ⟨rfl,rfl,dless_map fun j hj=>?_⟩⟩,⟨rfl,kle_of (b':=boxE i P[i]) rfl ?_ ⟨rfl,⟨rfl,rfl,rfl,rfl,rfl⟩,⟨rfl,rfl,rfl,rfl,rfl⟩,rfl⟩⟩,⟨rfl,kle_of (b':=.tail TV 3) rfl ?_ ⟨rfl,rfl⟩⟩,⟨rfl,kle_of (b':=.tail TES 1) rfl ?_ ⟨rfl,rfl⟩⟩,trivial⟩
      ·unfold KLe;rw[fN];exact Nat.zero_lt_succ _
      ·have hj:=List.mem_range.1 hj
       by_cases hji:j=i
       ·subst hji
        rw[foc_B];exact⟨rfl,rfl⟩
       ·rw[foc_ne (by omega) (by omega) (by omega)]
        exact⟨(gk_inn (by omega)).1,fn_X (pre:=[(8,8),(151,151),(900,i+1000),(901,i+2000),(902,i+3000)]) hpre (keysX_in.2 ⟨j,hj,hji,.inl rfl⟩)⟩
      ·repeat refine app_far rfl (by omega) ?_
       exact l1
      ·repeat refine app_far rfl (by omega) ?_
       exact l2
      ·repeat refine app_far rfl (by omega) ?_
       exact l3
     ·exact⟨.inl rfl,⟨rfl,rfl,rfl⟩,.inl rfl,PLe.int (by simp),.inl rfl,.inl rfl,⟨rfl,rfl,rfl,rfl,rfl,rfl⟩,.inl rfl,.inl rfl,.inl rfl,trivial⟩
    ·intro j hj
     have hj:j≤by_.length:=hj
     have lookI:∀q∈famX i 0 P,hpL (keyH K j++focH i P.length P[i]++famX i 0 P) q.1=some q.2:=fun q hq=>hp_past hPl40 (fun q hq=>by
      simp only[List.cons_append,List.nil_append,List.mem_cons,List.not_mem_nil,or_false] at hq
      rcases hq with rfl | rfl | rfl | rfl | rfl | rfl<;>exact .inl (by show _<_;simp only;omega)) hq
     by_cases qj:j<by_.length
     ·obtain⟨c1,c2⟩:=hc _ (List.getElem_mem qj)
      have cc:by_[j]=(by_[j].toNat:Int):=by omega
      have hst:=keyOf_step (r:=l[k]) qj
      rw[← hK,List.getD_eq_getElem?_getD,List.getElem?_eq_getElem c2,Option.getD_some] at hst
      ((conv=>whnf);repeat' ((first|(with_reducible first|apply a_|apply b_|apply c_)|((with_reducible first|apply d_|apply e_|apply f_|apply g_);focus first|omega|(simp only[q_]<;>omega))|((with_reducible first|apply i_|apply h_);focus first|omega|(simp only[q_]<;>omega))|((with_reducible apply h_);focus first|decide|kernel_rfl)|refine s_ (by decide) ?_|refine t_ (by decide) ?_|(first|refine Idx.mapI (f:=iC) j rfl qj ?_|refine Idx.mapI (f:=ValueD.c) by_[j].toNat cc c2 ?_)|(refine Need.by 32 rfl (by simp only[List.length_map,List.length_take,List.length_singleton];omega) ?_)|with_reducible first|apply l_|apply m_|apply n_|apply o_|refine p_ (fun _=>?_) (fun _=>?_))<;>(conv=>whnf)))
      all_goals first | (exfalso;omega) | skip
      all_goals
       have hpre:∀q∈[(8,8),(161,36),(151,151),(900,900),(901,901),(902,902)],∀k∈keysX i P,q.1≠k:=by
        intro q hq k hk
        obtain⟨j,h1,h2,h3⟩:=keysX_in.1 hk
        simp only[List.mem_cons,List.not_mem_nil,or_false] at hq
        rcases hq with rfl | rfl | rfl | rfl | rfl | rfl<;>(show _≠_;simp only;omega)
       refine⟨j+1,qj,by omega,wk_fam [(8,8),(161,36),(151,151),(900,900),(901,901),(902,902)] (keyH K (j+1)++focH i P.length P[i]) i P (fun a=>if a=36 then 161 else a) hpre ?_ ?_ (fun j hj=>gk_inn (by omega)) ?_ ?_ ?_⟩
       ·intro q hq a ha
        simp only[List.cons_append,List.nil_append,List.mem_cons,List.not_mem_nil,or_false] at hq
        rcases hq with rfl | rfl | rfl | rfl | rfl | rfl<;>(have ha:some _=some a:=ha;cases ha;rfl)
       ·intro k hk
        obtain⟨j,h1,h2,h3⟩:=keysX_in.1 hk
        exact if_neg (by omega)
       ·intro q hq
        have hb:=famX_big hq
        repeat refine app_far rfl hb ?_
        exact lookI q hq
       ·refine⟨⟨rfl,kle_of rfl rfl ⟨rfl,⟨rfl,rfl,rfl,rfl,?_⟩,rfl⟩⟩,⟨rfl,kle_of rfl rfl ⟨rfl,rfl⟩⟩,⟨rfl,kle_of rfl rfl ⟨rfl,rfl,dless_map fun j hj=>?_⟩⟩,⟨rfl,kle_of rfl rfl ⟨rfl,⟨rfl,rfl,rfl,rfl,rfl⟩,⟨rfl,rfl,rfl,rfl,rfl⟩,rfl⟩⟩,⟨rfl,kle_of rfl rfl ⟨rfl,rfl⟩⟩,⟨rfl,kle_of rfl rfl ⟨rfl,rfl⟩⟩,trivial⟩
        ·rw[hst,List.map_append];rfl
        ·have hj:=List.mem_range.1 hj
         by_cases hji:j=i
         ·subst hji
          rw[foc_B];exact⟨rfl,rfl⟩
         ·rw[foc_ne (by omega) (by omega) (by omega)]
          exact⟨(gk_inn (by omega)).1,fn_X hpre (keysX_in.2 ⟨j,hj,hji,.inl rfl⟩)⟩
       ·exact⟨.inl rfl,⟨rfl,rfl,rfl⟩,.inl rfl,.inl rfl,PLe.int (by omega),.inl rfl,⟨rfl,rfl,rfl,rfl,rfl,rfl⟩,.inl rfl,.inl rfl,.inl rfl,trivial⟩
     ·have e:K.take j=K:=List.take_of_length_le (by omega)
      have hfi:findI P K=(i:Int):=by unfold findI;rw[hf]
      have hG:∀j' p,P[j']? = some p→hpL (keyH K j++focH i P.length P[i]++famX i 0 P) (foc i (j'+1000))=some (boxG (foc i) j' p)∧hpL (keyH K j++focH i P.length P[i]++famX i 0 P) (foc i (j'+2000))=some (.tail TV 3)∧hpL (keyH K j++focH i P.length P[i]++famX i 0 P) (foc i (j'+3000))=some (.tail TES 1):=by
       intro j' p hp
       have hj':=(List.getElem?_eq_some_iff.1 hp).1
       by_cases hji:j'=i
       ·subst hji
        rw[List.getElem?_eq_getElem hj'] at hp
        cases hp
        unfold boxG
        rw[foc_B,foc_T,foc_R]
        exact⟨rfl,rfl,rfl⟩
       ·have hE':=fun q hq=>famX_in (x:=i) (i0:=0) hp (by omega) q hq
        rw[Nat.zero_add] at hE'
        unfold boxG
        rw[foc_ne (i:=i) (k:=j'+1000) (by omega) (by omega) (by omega),foc_ne (i:=i) (k:=j'+2000) (by omega) (by omega) (by omega),foc_ne (i:=i) (k:=j'+3000) (by omega) (by omega) (by omega)]
        exact⟨lookI _ (hE' _ List.mem_cons_self),lookI _ (hE' _ (List.mem_cons_of_mem _ List.mem_cons_self)),lookI _ (hE' _ (List.mem_cons_of_mem _ (List.mem_cons_of_mem _ List.mem_cons_self)))⟩
      have lR:(ptrsF i P.length)[0+((i:Nat):Int).toNat]? = some [D.ptr 900 0]:=by rw[Nat.zero_add,Int.toNat_natCast,ptrsF_get hi,foc_B]
      have hrl:=(parts_sub by_ (l.take k) P[i] (by rw[← hP];exact List.getElem_mem hi)).2
      rw[List.length_take] at hrl
      ((conv=>whnf);repeat' ((first|(with_reducible first|apply a_|apply b_|apply c_)|((with_reducible first|apply d_|apply e_|apply f_|apply g_);focus first|omega|(simp only[q_]<;>omega))|((with_reducible first|apply i_|apply h_);focus first|omega|(simp only[q_]<;>omega))|((with_reducible apply h_);focus first|decide|kernel_rfl)|refine s_ (by decide) ?_|refine t_ (by decide) ?_|(refine call_index i P hPl40 (.inl hi) hPk K hfi rfl (by show some (HB.box TES [D.app 161 TV 3 ((K.take j).map ValueD.c)])=_;rw[e]) rfl hG fun rf=>?_)|(refine Row.mk [.ptr 900 0] lR ?_)|(refine Need.by 24 rfl (by simp only[List.length_map,List.length_singleton];omega) ?_)|with_reducible first|apply l_|apply m_|apply n_|apply o_|refine p_ (fun _=>?_) (fun _=>?_))<;>(conv=>whnf)))
      all_goals first | (exfalso;omega) | skip
      have hpre:∀q∈[(151,151),(i+1000,900),(i+2000,901),(i+3000,64)],∀k∈keysX i P,q.1≠k:=by
       intro q hq k hk
       obtain⟨j,h1,h2,h3⟩:=keysX_in.1 hk
       simp only[List.mem_cons,List.not_mem_nil,or_false] at hq
       rcases hq with rfl | rfl | rfl | rfl<;>(show _≠_;simp only;omega)
      have f1:fnL ([(151,151),(i+1000,900),(i+2000,901),(i+3000,64)]++idR (keysX i P)) (i+1000)=some 900:=(fnL_skip (by omega)).trans fnL_hit
      have f2:fnL ([(151,151),(i+1000,900),(i+2000,901),(i+3000,64)]++idR (keysX i P)) (i+2000)=some 901:=(fnL_skip (by omega)).trans ((fnL_skip (by omega)).trans fnL_hit)
      have f3:fnL ([(151,151),(i+1000,900),(i+2000,901),(i+3000,64)]++idR (keysX i P)) (i+3000)=some 64:=(fnL_skip (by omega)).trans ((fnL_skip (by omega)).trans ((fnL_skip (by omega)).trans fnL_hit))
      obtain⟨g1,g2,g3⟩:=gk_out hi40
      refine⟨(k+1,P.set i (P[i].1,P[i].2++[l[k]])),⟨q,hnx.symm⟩,by show l.length - (k+1)<l.length - k;omega,wk_sub (wk_fam [(151,151),(i+1000,900),(i+2000,901),(i+3000,64)] ((151,.darr TPA 1 (ptrsN P.length))::famE i (P[i].1,P[i].2++[l[k]])) i P (fun a=>if a=900 then i+1000 else if a=901 then i+2000 else if a=64 then i+3000 else a) hpre ?_ ?_ (fun j hj=>gk_out (by omega)) ?_ ?_ ?_) ?_⟩
      ·intro q hq a ha
       simp only[famE,List.mem_cons,List.not_mem_nil,or_false] at hq
       rcases hq with rfl | rfl | rfl | rfl
       ·have ha:some _=some a:=ha
        cases ha;rfl
       ·cases f1.symm.trans ha;rfl
       ·cases f2.symm.trans ha;rfl
       ·cases f3.symm.trans ha;rfl
      ·intro k hk
       obtain⟨j,h1,h2,h3⟩:=keysX_in.1 hk
       show (if k=900 then _ else _)=k
       rw[if_neg (by omega),if_neg (by omega),if_neg (by omega)]
      ·intro q hq
       have hb:=famX_big hq
       repeat refine app_far rfl hb ?_
       exact lookI q hq
      ·refine⟨⟨rfl,kle_of rfl rfl ⟨rfl,rfl,dless_map fun j hj=>?_⟩⟩,⟨g1,kle_of f1 rfl ⟨rfl,⟨g2,f2,rfl,rfl,?_⟩,⟨g3,f3,rfl,rfl,?_⟩,rfl⟩⟩,⟨g2,kle_of f2 rfl ⟨rfl,rfl⟩⟩,⟨g3,kle_of f3 rfl ⟨rfl,rfl⟩⟩,trivial⟩
       ·have hj:=List.mem_range.1 hj
        by_cases hji:j=i
        ·subst hji
         rw[foc_B];exact⟨g1,f1⟩
        ·rw[foc_ne (by omega) (by omega) (by omega)]
         exact⟨(gk_out (by omega)).1,fn_X hpre (keysX_in.2 ⟨j,hj,hji,.inl rfl⟩)⟩
       ·rfl
       ·rw[List.map_append];rfl
      ·exact⟨.inl rfl,⟨rfl,rfl,rfl,rfl,rfl,by show P.length=(P.set i _).length;rw[List.length_set]⟩,.inl rfl,.inl rfl,PLe.int (by show _=((k+1:Nat):Int);omega),trivial⟩
      ·intro q hq
       have hq:q∈(151,HB.darr TPA 1 (ptrsN (P.set i (P[i].1,P[i].2++[l[k]])).length))::famL (P.set i (P[i].1,P[i].2++[l[k]])):=hq
       rw[List.length_set] at hq
       rcases List.mem_cons.1 hq with rfl | hq
       ·exact List.mem_cons_self
       ·rcases fam_set hi hq with hq | hq
        ·exact List.mem_append_left _ (List.mem_cons_of_mem _ hq)
        ·exact List.mem_append_right _ hq
  ·have e:l.take k=l:=List.take_of_length_le (by omega)
   rw[e] at hP
   rw[← hP]
   ((conv=>whnf);repeat' ((first|(with_reducible first|apply a_|apply b_|apply c_)|((with_reducible first|apply d_|apply e_|apply f_|apply g_);focus first|omega|(simp only[q_]<;>omega))|((with_reducible first|apply i_|apply h_);focus first|omega|(simp only[q_]<;>omega))|((with_reducible apply h_);focus first|decide|kernel_rfl)|refine s_ (by decide) ?_|refine t_ (by decide) ?_|with_reducible first|apply l_|apply m_|apply n_|apply o_|refine p_ (fun _=>?_) (fun _=>?_))<;>(conv=>whnf)))
   all_goals first | (exfalso;omega) | skip
   have g:∀j,j<P.length→j+1000∈nOut∧j+2000∈nOut∧j+3000∈nOut:=fun j hj=>by
    obtain⟨g1,g2,g3⟩:=gk_out (show j<40 by omega)
    exact⟨kin_iff.1 g1,kin_iff.1 g2,kin_iff.1 g3⟩
   refine RetS.mk (idR nOut) nOut (injOn_id _ _) rfl ⟨rfl,rfl,rfl,rfl,rfl,rfl⟩ (hles_id fun p hp=>?_)
   have hp:p∈partsOut P:=hp
   rcases List.mem_cons.1 hp with rfl | hp
   ·exact⟨List.mem_cons_self,rfl,hle_ptrs fun i hi=>(g i hi).1⟩
   ·obtain⟨k,b⟩:=p
    obtain⟨j,r,h1,h2,h3⟩:=famX_out hp
    have hl:=look _ hp
    rw[Nat.zero_add] at h3
    obtain⟨g1,g2,g3⟩:=g j (List.getElem?_eq_some_iff.1 h1).1
    have hb:=famX_big hp
    rcases h3 with ⟨rfl,rfl⟩ | ⟨rfl,rfl⟩ | ⟨rfl,rfl⟩
    ·exact⟨g1,by repeat (first|exact hl|refine app_far rfl hb ?_),hle_boxE g2 g3⟩
    ·exact⟨g2,by repeat (first|exact hl|refine app_far rfl hb ?_),rfl,rfl⟩
    ·exact⟨g3,by repeat (first|exact hl|refine app_far rfl hb ?_),rfl,rfl⟩
end
section
open Go.RowKit K
set_option maxRecDepth 100000
set_option maxRecDepth 100000
theorem newP_of {rf:Rf} {ks:List Nat} {A:Prop}:∀{δ:Dl},(∀p∈δ,ksHas p.1 ks=false)→A→newP rf ks δ A
 | [],_,h=>h
 | (k,b)::δ,hk,h=>by
  have ih:=newP_of (rf:=rf) (fun p hp=>hk p (List.mem_cons_of_mem _ hp)) h
  unfold newP
  cases rfHas k rf with
  | true=>exact ih
  | false=>
   have:=hk (k,b) List.mem_cons_self
   show (match ksHas k ks with | true=>False | false=>newP rf ks δ A)
   rw[this];exact ih
theorem addKs_of {K:List Nat→Prop} (hK:∀ks,K ks):∀{δ:Dl} {ks:List Nat},addKs δ ks K
 | [],ks=>hK ks
 | (k,b)::δ,ks=>addKs_of hK (δ:=δ)
theorem app_in {h:Hp} {k:Nat} {b:Option HB} {δ:Dl} (hm:(k,b)∈δ) (hu:∀b',(k,b')∈δ→b'=b):Dl.app h δ k=b:=by
 induction δ generalizing h with
 | nil=>cases hm
 | cons p δ ih=>
  obtain⟨q,c⟩:=p
  show Dl.app (upd h q c) δ k=b
  by_cases hk:k∈Dl.keys δ
  ·obtain⟨⟨k',b'⟩,h1,rfl⟩:=List.mem_map.1 hk
   have:=hu b' (List.mem_cons_of_mem _ h1)
   subst this
   exact ih h1 fun b' hb=>hu b' (List.mem_cons_of_mem _ hb)
  ·rw[app_at hk]
   rcases List.mem_cons.1 hm with e | hm
   ·cases e;rw[upd_same]
   ·exact absurd (List.mem_map.2 ⟨_,hm,rfl⟩) hk
theorem wk_any {e:Env} {h:Hp} {le:List (Nat×PV)} {n:List Nat} (f:List (Nat×Nat)) (lh:Rf) (g:Nat→Nat) (hi:∀q∈lh,∀a,fnL f q.1=some a→g a=q.1) (hh:∀q∈lh,kin q.1 n=true∧KLe (fnL f) n h q.1 q.2) (he:PLes (fnL f) n e le):Wk [] e h le lh n:=
 Wk.mk f (injOn_inv g hi) rfl he (hles_of hh)
abbrev noPart:PartD:=([],[])
def boxW (k j:Nat) (p:PartD):HB:=.box TP [if j<k then .c (.sl 3 (p.1.map ValueD.c)) else .app (j+2000) TV 3 (p.1.map ValueD.c),.c (.sl 1 (p.2.map rowC))]
def famW (k:Nat) (ps:List PartD):Rf:=(List.range ps.length).flatMap fun j=>if j=k then [] else [(j+1000,boxW k j (ps.getD j noPart)),(j+2000,.tail TV 3)]
theorem famW_mem {k:Nat} {ps:List PartD} {q:Nat×HB}:q∈famW k ps↔∃j,j<ps.length∧j≠k∧(q=(j+1000,boxW k j (ps.getD j noPart))∨q=(j+2000,.tail TV 3)):=by
 unfold famW
 rw[List.mem_flatMap]
 constructor
 ·rintro⟨j,hj,hq⟩
  split at hq
  ·cases hq
  ·rename_i hk
   refine⟨j,List.mem_range.1 hj,hk,?_⟩
   simpa using hq
 ·rintro⟨j,hj,hk,hq⟩
  refine⟨j,List.mem_range.2 hj,?_⟩
  rw[if_neg hk]
  simpa using hq
def keysP (p:Nat→Bool) (N:Nat):List Nat:=(List.range N).flatMap fun j=>if p j then [j+1000,j+2000] else []
theorem keysP_mem {p:Nat→Bool} {N k:Nat}:k∈keysP p N↔∃j,j<N∧p j=true∧(k=j+1000∨k=j+2000):=by
 unfold keysP
 rw[List.mem_flatMap]
 constructor
 ·rintro⟨j,hj,hq⟩
  split at hq
  ·rename_i hk
   refine⟨j,List.mem_range.1 hj,hk,?_⟩
   simpa using hq
  ·cases hq
 ·rintro⟨j,hj,hk,hq⟩
  refine⟨j,List.mem_range.2 hj,?_⟩
  rw[if_pos hk]
  simpa using hq
theorem fn_pre {pre:List (Nat×Nat)} {ks:List Nat} {k:Nat} (hpre:∀q∈pre,q.1≠k) (h:k∈ks):fnL (pre++idR ks) k=some k:=by
 rw[fnL_right,idR_in h]
 have:∀{a:List (Nat×Nat)},(∀q∈a,q.1≠k)→fnL a k=none:=by
  intro a
  induction a with
  | nil=>intro _;rfl
  | cons q a ih=>
   intro hq
   obtain⟨q1,q2⟩:=q
   rw[fnL_skip (hq _ List.mem_cons_self).symm]
   exact ih fun r hr=>hq r (List.mem_cons_of_mem _ hr)
 exact this hpre
theorem fn_not {pre:List (Nat×Nat)} {ks:List Nat} {k:Nat} (hpre:∀q∈pre,q.1≠k) (h:k∉ks):fnL (pre++idR ks) k=none:=by
 have:∀{a:List (Nat×Nat)},(∀q∈a,q.1≠k)→fnL a k=none:=by
  intro a
  induction a with
  | nil=>intro _;rfl
  | cons q a ih=>
   intro hq
   obtain⟨q1,q2⟩:=q
   rw[fnL_skip (hq _ List.mem_cons_self).symm]
   exact ih fun r hr=>hq r (List.mem_cons_of_mem _ hr)
 rw[fnL_right (this hpre)]
 exact idR_none h
theorem kle_new {f:Nat→Option Nat} {n:List Nat} {h:Hp} {k e sz:Nat} (h1:f k=none) (h2:0<sz):KLe f n h k (.tail e sz):=by
 unfold KLe
 rw[h1];exact h2
theorem famG_id:∀{ps:List PartD} {i0:Nat},i0+ps.length≤1000→famG id i0 ps=famX noP i0 ps
 | [],_,_=>rfl
 | p::ps,i0,h=>by
  rw[List.length_cons] at h
  rw[famG,famX,if_neg (show ¬i0=5000 by omega),famG_id (by omega)]
  rfl
theorem renD_arr {ρ:Ren} {k k' e sz lo n:Nat} {K:D→Prop} (h:fnL ρ k=some k') (hK:K (.arr k' e sz lo n)):renD ρ (.arr k e sz lo n) K:=by
 show (match fnL ρ k with | some k'=>K (.arr k' e sz lo n) | none=>False)
 rw[h];exact hK
abbrev newD (r:Rf):Dl:=r.map fun p=>(p.1,some p.2)
theorem partsOut_keys {ps:List PartD} (h40:ps.length≤40):(partsOut ps).map Prod.fst=151::famK 0 ps:=by rw[List.map_cons,famX_noK (by omega)]
theorem call_parts {h:Hp} {K:OpK} {X:Value→Hp→Prop} (l:List RowT) (by_:List Int) (h40:l.length≤40) (hb8:by_.length≤8) (hy:∀r∈l,r.length≤8∧∀c∈by_,0≤c∧c.toNat<r.length)
  (hK:K (.d (.arr 151 TPA 1 0 (partsF by_ l).length)) (newD (partsOut (partsF by_ l))) []):CallP Tryz.prog 16 [rwsV l,slV 1 iC by_] h K X:=by
 have hs:=s_partsN l by_ h40 hb8 hy
 have hP40:(partsF by_ l).length≤40:=by
  rcases parts_len by_ l with h | ⟨_,h⟩<;>omega
 obtain⟨P,hP⟩:∃P,P=partsF by_ l:=⟨_,rfl⟩
 rw[← hP] at hs hK hP40
 obtain⟨ρ,hρ⟩:∃ρ:Ren,ρ=(151::famK 0 P).map fun k=>(k,id k):=⟨_,rfl⟩
 have hfn:∀k∈151::famK 0 P,fnL ρ k=some (id k):=fun k hk=>by
  rw[hρ]
  exact fnL_in (List.mem_map.2 ⟨k,hk,rfl⟩) fun b' hb'=>by
   obtain⟨x,_,e⟩:=List.mem_map.1 hb'
   cases e;rfl
 have hnd:(151::famK 0 P).Nodup:=List.nodup_cons.2 ⟨fun hm=>by
  obtain⟨j,h1,h2⟩:=famK_in.1 hm
  omega,famK_nodup (by omega)⟩
 have hfam:∀k∈famK 0 P,fnL ρ k=some (id k):=fun k hk=>hfn k (List.mem_cons_of_mem _ hk)
 refine CallP.ret ρ _ [] [] _ (partsOut P) [] [] hs ?hn rfl rfl rfl trivial ?hk
 case hn=>
  have hk:=partsOut_keys hP40
  unfold namesOk
  rw[renOk_of (by rw[hρ];exact nodup_pair hnd fun a _ b _ e=>e),ndK_of (r:=[]++partsOut P) (by rw[List.nil_append,hk];exact hnd)]
  show (true&&(ndK []&&(true&&_)))=true
  rw[Bool.true_and,show ndK []=true from rfl,Bool.true_and,Bool.true_and,List.all_eq_true]
  intro p hp
  refine rfHas_of ?_
  show p.1∈(partsOut P).map Prod.fst
  rw[hk]
  rw[hρ] at hp
  obtain⟨k,hk,rfl⟩:=List.mem_map.1 hp
  exact hk
 case hk=>
  have r1:=hfn 151 List.mem_cons_self
  refine renRf_cons r1 ?_
  rw[renHB]
  unfold ptrsN
  refine ren_rows (g:=id) (fun j hj=>hfam _ (famK_in.2 ⟨j,List.mem_range.1 hj,.inl (by omega)⟩)) ?_
  refine ren_fam (g:=id) (by omega) hfam ?_
  rw[famG_id (by omega)]
  unfold renP
  exact renD_arr r1 hK
theorem grpG_ok {l:List RowT} {by_:List Int} {aggs:List AggD} (h:grpG l by_ aggs=0):by_.length+aggs.length≤8∧(∀a∈aggs,1≤a.Kind∧a.Kind≤4)∧placesF l by_=0∧aggE l aggs=0:=by
 unfold grpG at h
 by_cases h1:8<by_.length+aggs.length
 ·rw[if_pos h1] at h;cases h
 ·rw[if_neg h1] at h
  by_cases h2:(aggs.any fun a=>decide (a.Kind<1∨4<a.Kind))=true
  ·rw[if_pos h2] at h;cases h
  ·rw[if_neg h2] at h
   by_cases h3:placesF l by_≠0
   ·rw[if_pos h3] at h;exact absurd h h3
   ·rw[if_neg h3] at h
    refine⟨by omega,fun a ha=>?_,Decidable.of_not_not h3,h⟩
    by_cases q:a.Kind<1∨4<a.Kind
    ·exact absurd (List.any_eq_true.2 ⟨a,ha,decide_eq_true q⟩) h2
    ·omega
theorem placesF_in {l:List RowT} (hl:0<l.length):∀{at_:List Int},placesF l at_=0→∀c∈at_,0≤c∧c<(widthF l:Int)
 | [],_,c,hc=>by cases hc
 | x::xs,h,c,hc=>by
  rw[placesF] at h
  by_cases q:0<l.length∧(x<0∨(widthF l:Int)≤x)
  ·rw[if_pos q] at h;cases h
  ·rw[if_neg q] at h
   rcases List.mem_cons.1 hc with rfl | hc
   ·omega
   ·exact placesF_in hl h c hc
theorem aggE_in {l:List RowT}:∀{aggs:List AggD},aggE l aggs=0→∀a∈aggs,(a.Kind=1∧a.Col=-1)∨placesF l [a.Col]=0
 | [],_,a,ha=>by cases ha
 | x::xs,h,a,ha=>by
  rw[aggE] at h
  by_cases q:(x.Kind≠1∨x.Col≠-1)∧placesF l [x.Col]≠0
  ·rw[if_pos q] at h;exact absurd h q.2
  ·rw[if_neg q] at h
   rcases List.mem_cons.1 ha with rfl | ha
   ·by_cases z:a.Kind≠1∨a.Col≠-1
    ·exact .inr (Decidable.of_not_not fun h=>q ⟨z,h⟩)
    ·exact .inl (by omega)
   ·exact aggE_in h a ha
theorem cols_ok {l:List RowT} {by_:List Int} {aggs:List AggD} (h0:rowsChk l=0) (h1:placesF l by_=0) (h2:aggE l aggs=0) :
  (∀r∈l,∀c∈by_,0≤c∧c.toNat<r.length)∧∀a∈aggs,(a.Kind=1∧a.Col<0)∨l.length=0∨(0≤a.Col∧∀r∈l,a.Col.toNat<r.length∧r.length≤8):=by
 obtain⟨h40,h8⟩:=rowsChk_ok.1 h0
 refine⟨fun r hr c hc=>?_,fun a ha=>?_⟩
 ·have hl:0<l.length:=List.length_pos_of_mem hr
  have:=placesF_in hl h1 c hc
  have:=(h8 r hr).2.1
  omega
 ·rcases aggE_in h2 a ha with h | h
  ·exact .inl ⟨h.1,by omega⟩
  ·right
   by_cases hl:0<l.length
   ·right
    have:=placesF_in hl h a.Col List.mem_cons_self
    refine⟨this.1,fun r hr=>?_⟩
    have:=h8 r hr
    omega
   ·exact .inl (by omega)
abbrev gE (aggs:List AggD) (N:Nat) (m:List RowT) (k:Nat):List (Nat×PV):=[(2,slV 2 AggD.c aggs),(10,.d (.app 161 TES 1 (m.map rowC))),(32,.d (.arr 151 TPA 1 0 N)),(33,pInt .i64 N),(34,pInt .i64 (k:Int))]
abbrev nG:List Nat:=[161,160,151,900,901]++gkeys
theorem gk_g {j:Nat} (h:j<40):kin (j+1000) nG=true∧kin (j+2000) nG=true:=⟨(gk_in h [161,160,151,900,901]).1,(gk_in h [161,160,151,900,901]).2.1⟩
def focO:Option PartD→Rf
 | none=>[]
 | some p=>[(900,.box TP [.app 901 TV 3 (p.1.map ValueD.c),.c (.sl 1 (p.2.map rowC))]),(901,.tail TV 3)]
abbrev gH (P:List PartD) (s:Nat×Option PartD×List RowT):Rf:=(161,.tail TES 1)::(151,.darr TPA 1 (ptrsF s.1 P.length))::(focO s.2.1++famW s.1 P)
theorem boxW_self {f:Nat→Option Nat} {n:List Nat} {k k' j:Nat} {p:PartD} (hk:j≠k) (hk':k'=k∨k'=k+1) (h:kin (j+2000) n=true) (hf:f (j+2000)=some (j+2000)):HLe f n (boxW k' j p) (boxW k j p):=by
 unfold boxW
 by_cases q:j<k
 ·rw[if_pos q,if_pos (show j<k' by omega)]
  exact⟨rfl,.inl rfl,.inl rfl,rfl⟩
 ·rw[if_neg q,if_neg (show ¬j<k' by omega)]
  exact⟨rfl,⟨h,hf,rfl,rfl,rfl⟩,.inl rfl,rfl⟩
theorem parts_get {ps:List PartD} (h40:ps.length≤40) {k:Nat} {b:HB} (h:(k,b)∈partsOut ps):hpL (partsOut ps) k=some b:=by
 rcases List.mem_cons.1 h with e | h
 ·cases e;rfl
 ·exact hp_past (a:=[(151,_)]) h40 (fun q hq=>by rw[List.mem_singleton.1 hq];exact .inl (show 151<1000 by decide)) h
abbrev fP (pre:List (Nat×Nat)) (p:Nat→Bool) (N:Nat):List (Nat×Nat):=pre++idR (keysP p N)
theorem wk_g {e:Env} {h:Hp} {le:List (Nat×PV)} (pre:List (Nat×Nat)) (p:Nat→Bool) (lp:Rf) (x:Nat) (P:List PartD) (h40:P.length≤40) (g:Nat→Nat) (b':Nat→HB)
  (hpre:∀q∈pre,∀j,j<P.length→p j=true→q.1≠j+1000∧q.1≠j+2000) (hlp:∀q∈lp,∀a,fnL (fP pre p P.length) q.1=some a→g a=q.1) (hg:∀j,j<P.length→p j=true→g (j+1000)=j+1000∧g (j+2000)=j+2000)
  (hX:∀j,j<P.length→j≠x→p j=true→h (j+1000)=some (b' j)∧h (j+2000)=some (.tail TV 3)∧(fnL (fP pre p P.length) (j+2000)=some (j+2000)→HLe (fnL (fP pre p P.length)) nG (boxW x j (P.getD j noPart)) (b' j)))
  (hE:∀j,j<P.length→j≠x→p j=false→KLe (fnL (fP pre p P.length)) nG h (j+1000) (boxW x j (P.getD j noPart))∧fnL (fP pre p P.length) (j+2000)=none∧∀a,fnL (fP pre p P.length) (j+1000)=some a→g a=j+1000)
  (hL:∀q∈lp,kin q.1 nG=true∧KLe (fnL (fP pre p P.length)) nG h q.1 q.2) (he:PLes (fnL (fP pre p P.length)) nG e le):Wk [] e h le (lp++famW x P) nG:=by
 have f1:∀j,j<P.length→p j=true→fnL (fP pre p P.length) (j+1000)=some (j+1000):=fun j hj hp=>fn_pre (fun q hq=>(hpre q hq j hj hp).1) (keysP_mem.2 ⟨j,hj,hp,.inl rfl⟩)
 have f2:∀j,j<P.length→p j=true→fnL (fP pre p P.length) (j+2000)=some (j+2000):=fun j hj hp=>fn_pre (fun q hq=>(hpre q hq j hj hp).2) (keysP_mem.2 ⟨j,hj,hp,.inr rfl⟩)
 refine wk_any (fP pre p P.length) _ g (fun q hq a ha=>?_) (fun q hq=>?_) he
 ·rcases List.mem_append.1 hq with hq | hq
  ·exact hlp q hq a ha
  ·obtain⟨j,hj,hx,h⟩:=famW_mem.1 hq
   cases hp:p j with
   | true=>
    rcases h with rfl | rfl
    ·cases (f1 j hj hp).symm.trans ha
     exact (hg j hj hp).1
    ·cases (f2 j hj hp).symm.trans ha
     exact (hg j hj hp).2
   | false=>
    obtain⟨h1,h2,h3⟩:=hE j hj hx hp
    rcases h with rfl | rfl
    ·exact h3 a ha
    ·cases h2.symm.trans ha
 ·rcases List.mem_append.1 hq with hq | hq
  ·exact hL q hq
  ·obtain⟨j,hj,hx,h⟩:=famW_mem.1 hq
   obtain⟨n1,n2⟩:=gk_g (show j<40 by omega)
   cases hp:p j with
   | true=>
    obtain⟨h1,h2,h3⟩:=hX j hj hx hp
    rcases h with rfl | rfl
    ·exact⟨n1,kle_of (f1 j hj hp) h1 (h3 (f2 j hj hp))⟩
    ·exact⟨n2,kle_of (f2 j hj hp) h2 ⟨rfl,rfl⟩⟩
   | false=>
    obtain⟨h1,h2,h3⟩:=hE j hj hx hp
    rcases h with rfl | rfl
    ·exact⟨n1,h1⟩
    ·exact⟨n2,kle_new h2 (by decide)⟩
theorem famW_look {a:Rf} {k:Nat} {P:List PartD} (h40:P.length≤40) (ha:(a.all fun q=>Nat.blt q.1 1000)=true) {q:Nat×HB} (h:q∈famW k P):hpL (a++famW k P) q.1=some q.2:=by
 obtain⟨j,hj,hx,hq⟩:=famW_mem.1 h
 rw[hpL_right (hpL_out fun b hb=>?_)]
 ·refine hpL_in h fun b' hb=>?_
  obtain⟨j',hj',hx',hq'⟩:=famW_mem.1 hb
  rcases hq with rfl|rfl<;>rcases hq' with e|e<;>(have e1:=congrArg Prod.fst e;have e2:=congrArg Prod.snd e;simp only at e1 e2)<;>first | (exfalso;omega) | skip
  ·have:j'=j:=by omega
   rw[e2,this]
  ·exact e2
 ·have:=List.all_eq_true.1 ha _ hb
  have:=Nat.le_of_ble_eq_true this
  rcases hq with rfl | rfl<;>(simp only at this;omega)
theorem foc_self {pre:List (Nat×Nat)} {k N j:Nat} (h9:fnL pre 900=some 900) (hpre:(pre.all fun q=>Nat.blt q.1 1000)=true) (h40:N≤40) (hj:j<N) :
  kin (foc k (j+1000)) nG=true∧fnL (fP pre (fun j=>j≠k) N) (foc k (j+1000))=some (foc k (j+1000)):=by
 by_cases hk:j=k
 ·subst hk
  rw[foc_B]
  exact⟨rfl,fnL_left h9⟩
 ·rw[foc_ne (by omega) (by omega) (by omega)]
  refine⟨(gk_g (by omega)).1,fn_pre (fun q hq=>?_) (keysP_mem.2 ⟨j,hj,decide_eq_true hk,.inl rfl⟩)⟩
  have:=Nat.le_of_ble_eq_true (List.all_eq_true.1 hpre q hq)
  omega
theorem wk_k {e:Env} {h:Hp} {le:List (Nat×PV)} (pre:List (Nat×Nat)) (lp:Rf) (k:Nat) (P:List PartD) (h40:P.length≤40) (g:Nat→Nat) (hpre:(pre.all fun q=>Nat.blt q.1 1000)=true) (hlp:∀q∈lp,∀a,fnL (fP pre (fun j=>j≠k) P.length) q.1=some a→g a=q.1) (hg:∀a,1000≤a→g a=a)
  (hX:∀q∈famW k P,h q.1=some q.2) (hL:∀q∈lp,kin q.1 nG=true∧KLe (fnL (fP pre (fun j=>j≠k) P.length)) nG h q.1 q.2) (he:PLes (fnL (fP pre (fun j=>j≠k) P.length)) nG e le):Wk [] e h le (lp++famW k P) nG:=by
 refine wk_g pre (fun j=>j≠k) lp k P h40 g (fun j=>boxW k j (P.getD j noPart)) (fun q hq j hj hp=>?_) hlp (fun j hj hp=>⟨hg _ (by omega),hg _ (by omega)⟩) (fun j hj hx hp=>?_) (fun j hj hx hp=>absurd (decide_eq_true hx) (by rw[hp];decide)) hL he
 ·have:=Nat.le_of_ble_eq_true (List.all_eq_true.1 hpre q hq)
  omega
 ·exact⟨hX (j+1000,_) (famW_mem.2 ⟨j,hj,hx,.inl rfl⟩),hX (j+2000,_) (famW_mem.2 ⟨j,hj,hx,.inr rfl⟩),fun hf=>boxW_self hx (.inl rfl) (gk_g (show j<40 by omega)).2 hf⟩
theorem famW_big {k:Nat} {P:List PartD} {q:Nat×HB} (h:q∈famW k P):1000≤q.1:=by
 obtain⟨j,hj,hx,rfl | rfl⟩:=famW_mem.1 h<;>(simp only;omega)
set_option maxHeartbeats 2000000 in
theorem p_Group (l:List RowT) (hr:∀r∈l,r.length≤140737488355328) (hN:∀r∈l,∀v∈r,WholeP.In64 v.N) (by_:List Int) (aggs:List AggD) :
  Pure Tryz.prog 7 [rwsV l,slV 1 iC by_,slV 2 AggD.c aggs] (.tup [rwsV (groupF l by_ aggs).1,pInt .i64 (groupF l by_ aggs).2]):=by
 have hml:(l.map rowC).length=l.length:=List.length_map _
 have hma:(aggs.map AggD.c).length=aggs.length:=List.length_map _
 have pc:=p_bagcheck l
 have pg:=p_grouping l hr by_ aggs
 obtain⟨R,hR⟩:∃R,R=groupF l by_ aggs:=⟨_,rfl⟩
 rw[← hR]
 unfold groupF at hR
 refine pure_of Tryz.func7 (by rfl) rfl (by kernel_rfl) (by rfl) ?_
 by_cases h0:rowsChk l≠0
 ·rw[if_pos h0] at hR
  rw[hR]
  ((conv=>whnf);repeat' ((first|(with_reducible first|apply a_|apply b_|apply c_)|((with_reducible first|apply d_|apply e_|apply f_|apply g_);focus first|omega|(simp only[q_]<;>omega))|((with_reducible first|apply i_|apply h_);focus first|omega|(simp only[q_]<;>omega))|((with_reducible apply h_);focus first|decide|kernel_rfl)|refine s_ (by decide) ?_|refine t_ (by decide) ?_|refine r_ pc rfl ?_|with_reducible first|apply l_|apply m_|apply n_|apply o_|refine p_ (fun _=>?_) (fun _=>?_))<;>(conv=>whnf)))
  all_goals first|exact Ret.le ⟨.inr ⟨⟨1,rfl⟩,.inl rfl⟩,.inl rfl,rfl⟩ | (exfalso;omega) | skip
 ·rw[if_neg h0] at hR
  have h0:rowsChk l=0:=Decidable.of_not_not h0
  rw[h0] at pc
  obtain⟨h40,h8⟩:=rowsChk_ok.1 h0
  by_cases h1:grpG l by_ aggs≠0
  ·rw[if_pos h1] at hR
   rw[hR]
   ((conv=>whnf);repeat' ((first|(with_reducible first|apply a_|apply b_|apply c_)|((with_reducible first|apply d_|apply e_|apply f_|apply g_);focus first|omega|(simp only[q_]<;>omega))|((with_reducible first|apply i_|apply h_);focus first|omega|(simp only[q_]<;>omega))|((with_reducible apply h_);focus first|decide|kernel_rfl)|refine s_ (by decide) ?_|refine t_ (by decide) ?_|refine r_ pc rfl ?_|refine r_ pg rfl ?_|with_reducible first|apply l_|apply m_|apply n_|apply o_|refine p_ (fun _=>?_) (fun _=>?_))<;>(conv=>whnf)))
   all_goals first|exact Ret.le ⟨.inr ⟨⟨1,rfl⟩,.inl rfl⟩,.inl rfl,rfl⟩ | (exfalso;omega) | skip
  ·rw[if_neg h1] at hR
   have h1:grpG l by_ aggs=0:=Decidable.of_not_not h1
   rw[h1] at pg
   obtain⟨g1,g2,g3,g4⟩:=grpG_ok h1
   have hcol:=cols_ok h0 g3 g4
   obtain⟨P,hP⟩:∃P,P=partsF by_ l:=⟨_,rfl⟩
   have hP40:P.length≤40:=by
    rcases parts_len by_ l with h | ⟨_,h⟩<;>(rw[← hP] at h;omega)
   have ci:=fun {h K X} hK=>call_parts (h:=h) (K:=K) (X:=X) l by_ h40 (by omega) (fun r hr=>⟨(h8 r hr).1,fun c hc=>hcol.1 r hr c hc⟩) hK
   rw[← hP] at ci hR
   ((conv=>whnf);repeat' ((first|(with_reducible first|apply a_|apply b_|apply c_)|((with_reducible first|apply d_|apply e_|apply f_|apply g_);focus first|omega|(simp only[q_]<;>omega))|((with_reducible first|apply i_|apply h_);focus first|omega|(simp only[q_]<;>omega))|((with_reducible apply h_);focus first|decide|kernel_rfl)|refine s_ (by decide) ?_|refine t_ (by decide) ?_|refine r_ pc rfl ?_|refine r_ pg rfl ?_|(refine ci ?_)|with_reducible first|apply l_|apply m_|apply n_|apply o_|refine p_ (fun _=>?_) (fun _=>?_))<;>(conv=>whnf)))
   refine newP_of (fun _ _=>rfl) ?_
   show addKs _ _ _
   refine addKs_of (fun ks=>?_)
   ((conv=>whnf);repeat' ((first|(with_reducible first|apply a_|apply b_|apply c_)|((with_reducible first|apply d_|apply e_|apply f_|apply g_);focus first|omega|(simp only[q_]<;>omega))|((with_reducible first|apply i_|apply h_);focus first|omega|(simp only[q_]<;>omega))|((with_reducible apply h_);focus first|decide|kernel_rfl)|refine s_ (by decide) ?_|refine t_ (by decide) ?_|with_reducible first|apply l_|apply m_|apply n_|apply o_|refine p_ (fun _=>?_) (fun _=>?_))<;>(conv=>whnf)))
   have hd:∀q∈partsOut P,∀h:Hp,Dl.app h (newD (partsOut P)) q.1=some q.2:=fun q hq h=>by
    refine app_in (List.mem_map.2 ⟨q,hq,rfl⟩) fun b' hb=>?_
    obtain⟨⟨k,b⟩,hm,e⟩:=List.mem_map.1 hb
    obtain⟨q1,q2⟩:=q
    have e1:k=q1:=congrArg Prod.fst e
    have e2:some b=b':=congrArg Prod.snd e
    subst e1
    rw[← e2]
    have l1:=parts_get hP40 hm
    have l2:=parts_get hP40 hq
    rw[l1] at l2
    exact l2
   refine LoopC.mk (Nat×Option PartD×List RowT) (fun s=>gE aggs P.length s.2.2 s.1) (gH P) nG (fun s=>s.1≤P.length∧s.2.1=P[s.1]?∧mapX (rowP aggs) (P.take s.1)=.ok s.2.2) (fun s=>P.length - s.1) (0,P[0]?,[]) ⟨Nat.zero_le _,rfl,rfl⟩ ?start ?round
   case start=>
    have hm:∀j,j<P.length→∀q∈famE j (P.getD j noPart),q∈partsOut P:=fun j hj q hq=>by
     have hE:=fun q hq=>famX_in (x:=noP) (i0:=0) (List.getElem?_eq_getElem hj) (by show 0+j≠5000;omega) q hq
     rw[Nat.zero_add] at hE
     rw[List.getD_eq_getElem?_getD,List.getElem?_eq_getElem hj] at hq
     exact List.mem_cons_of_mem _ (hE q hq)
    have fN:fnL (fP [(151,151),(900,1000),(901,2000)] (fun j=>j≠0) P.length) 161=none:=fn_not (by decide) fun hm=>by
     obtain⟨j,h1,h2,h3⟩:=keysP_mem.1 hm
     omega
    refine wk_g [(151,151),(900,1000),(901,2000)] (fun j=>j≠0) ((161,.tail TES 1)::(151,.darr TPA 1 (ptrsF 0 P.length))::focO P[0]?) 0 P hP40 (fun a=>if a=1000 then 900 else if a=2000 then 901 else a) (fun j=>boxE j (P.getD j noPart)) ?_ ?_ ?_ ?_ ?_ ?_ ?_
    ·intro q hq j hj hp
     have hp:=of_decide_eq_true hp
     simp only[List.mem_cons,List.not_mem_nil,or_false] at hq
     rcases hq with rfl | rfl | rfl<;>(show _≠_∧_≠_;simp only;omega)
    ·intro q hq a ha
     rcases List.mem_cons.1 hq with rfl | hq
     ·cases fN.symm.trans ha
     ·rcases List.mem_cons.1 hq with rfl | hq
      ·have ha:some 151=some a:=ha
       cases ha;rfl
      ·cases hp:P[0]? with
       | none=>rw[hp] at hq;cases hq
       | some p=>
        rw[hp] at hq
        simp only[focO,List.mem_cons,List.not_mem_nil,or_false] at hq
        rcases hq with rfl | rfl<;>(have ha:some _=some a:=ha;cases ha;rfl)
    ·intro j hj hp
     have hp:=of_decide_eq_true hp
     exact⟨by rw[if_neg (by omega),if_neg (by omega)],by rw[if_neg (by omega),if_neg (by omega)]⟩
    ·intro j hj hx hp
     obtain⟨n1,n2⟩:=gk_g (show j<40 by omega)
     refine⟨hd (j+1000,boxE j (P.getD j noPart)) (hm j hj _ List.mem_cons_self) _,hd (j+2000,.tail TV 3) (hm j hj _ (List.mem_cons_of_mem _ List.mem_cons_self)) _,fun hf=>?_⟩
     unfold boxW
     rw[if_neg (Nat.not_lt_zero j)]
     exact⟨rfl,⟨n2,hf,rfl,rfl,rfl⟩,rfl,rfl⟩
    ·intro j hj hx hp
     exact absurd (decide_eq_true hx) (by rw[hp];decide)
    ·intro q hq
     rcases List.mem_cons.1 hq with rfl | hq
     ·exact⟨rfl,kle_new fN (by decide)⟩
     ·rcases List.mem_cons.1 hq with rfl | hq
      ·refine⟨rfl,kle_of rfl (hd (151,.darr TPA 1 (ptrsN P.length)) List.mem_cons_self _) ⟨rfl,rfl,dless_map fun j hj=>?_⟩⟩
       have hj:=List.mem_range.1 hj
       by_cases hj0:j=0
       ·subst hj0;exact⟨rfl,rfl⟩
       ·rw[foc_ne (by omega) (by omega) (by omega)]
        refine⟨(gk_g (by omega)).1,fn_pre (fun q hq=>?_) (keysP_mem.2 ⟨j,hj,decide_eq_true hj0,.inl rfl⟩)⟩
        simp only[List.mem_cons,List.not_mem_nil,or_false] at hq
        rcases hq with rfl | rfl | rfl<;>(show _≠_;simp only;omega)
      ·cases hp:P[0]? with
       | none=>rw[hp] at hq;cases hq
       | some p=>
        rw[hp] at hq
        have h0:0<P.length:=(List.getElem?_eq_some_iff.1 hp).1
        have hg:P.getD 0 noPart=p:=by rw[List.getD_eq_getElem?_getD,hp];rfl
        have hm0:=hm 0 h0
        rw[hg] at hm0
        simp only[focO,List.mem_cons,List.not_mem_nil,or_false] at hq
        rcases hq with rfl | rfl
        ·exact⟨rfl,kle_of rfl (hd (1000,boxE 0 p) (hm0 _ List.mem_cons_self) _) ⟨rfl,⟨rfl,rfl,rfl,rfl,rfl⟩,rfl,rfl⟩⟩
        ·exact⟨rfl,kle_of rfl (hd (2000,.tail TV 3) (hm0 _ (List.mem_cons_of_mem _ List.mem_cons_self)) _) ⟨rfl,rfl⟩⟩
    ·exact⟨.inl rfl,⟨rfl,fN,by decide,rfl,rfl⟩,⟨rfl,rfl,rfl,rfl,rfl,rfl⟩,.inl rfl,.inl rfl,trivial⟩
   case round=>
    rintro⟨k,o,m⟩ ⟨hk,ho,hm⟩
    have hk:k≤P.length:=hk
    have ho:o=P[k]?:=ho
    have hm:mapX (rowP aggs) (P.take k)=.ok m:=hm
    cases o with
    | none=>
     have hkN:P.length≤k:=List.getElem?_eq_none_iff.1 ho.symm
     have e:P.take k=P:=List.take_of_length_le hkN
     rw[e] at hm
     rw[hm] at hR
     have hR:R=(m,0):=hR
     rw[hR]
     ((conv=>whnf);repeat' ((first|(with_reducible first|apply a_|apply b_|apply c_)|((with_reducible first|apply d_|apply e_|apply f_|apply g_);focus first|omega|(simp only[q_]<;>omega))|((with_reducible first|apply i_|apply h_);focus first|omega|(simp only[q_]<;>omega))|((with_reducible apply h_);focus first|decide|kernel_rfl)|refine s_ (by decide) ?_|refine t_ (by decide) ?_|with_reducible first|apply l_|apply m_|apply n_|apply o_|refine p_ (fun _=>?_) (fun _=>?_))<;>(conv=>whnf)))
     all_goals first|exact Ret.mk rfl | (exfalso;omega) | skip
    | some p=>
     have hkN:k<P.length:=(List.getElem?_eq_some_iff.1 ho.symm).1
     have hpk:P[k]=p:=by
      rw[List.getElem?_eq_getElem hkN] at ho
      exact (Option.some.inj ho).symm
     have hgd:P.getD k noPart=p:=by rw[List.getD_eq_getElem?_getD,← ho];rfl
     have lR:(ptrsF k P.length)[0+((k:Nat):Int).toNat]? = some [D.ptr 900 0]:=by rw[Nat.zero_add,Int.toNat_natCast,ptrsF_get hkN,foc_B]
     have hsub:=parts_sub by_ l p (by rw[← hP,← hpk];exact List.getElem_mem hkN)
     have hp1:p.1.length≤8:=by
      have:=parts_keys by_ l p (by rw[← hP,← hpk];exact List.getElem_mem hkN)
      omega
     have hml2:m.length=k:=by rw[mapX_len hm,List.length_take];omega
     have lookK:∀q∈famW k P,hpL (gH P (k,some p,m)) q.1=some q.2:=fun q hq=>famW_look (a:=[(161,_),(151,_),(900,_),(901,_)]) hP40 rfl hq
     ((conv=>whnf);repeat' ((first|(with_reducible first|apply a_|apply b_|apply c_)|((with_reducible first|apply d_|apply e_|apply f_|apply g_);focus first|omega|(simp only[q_]<;>omega))|((with_reducible first|apply i_|apply h_);focus first|omega|(simp only[q_]<;>omega))|((with_reducible apply h_);focus first|decide|kernel_rfl)|refine s_ (by decide) ?_|refine t_ (by decide) ?_|(refine Row.mk [.ptr 900 0] lR ?_)|with_reducible first|apply l_|apply m_|apply n_|apply o_|refine p_ (fun _=>?_) (fun _=>?_))<;>(conv=>whnf)))
     all_goals first | (exfalso;omega) | skip
     refine LoopC.mk (Nat×List ValueD) (fun s=>[(2,slV 2 AggD.c aggs),(10,.d (.app 161 TES 1 (m.map rowC))),(12,.d (.ptr 900 0)),(13,.d (.app 160 TV 3 ((p.1++s.2).map ValueD.c))),(32,.d (.arr 151 TPA 1 0 P.length)),(33,pInt .i64 P.length),(34,pInt .i64 (k:Int)),(42,slV 2 AggD.c aggs),(43,pInt .i64 aggs.length),(44,pInt .i64 (s.1:Int))])
      (fun _=>[(160,.tail TV 3),(161,.tail TES 1),(151,.darr TPA 1 (ptrsF k P.length)),(900,.box TP [.c (.sl 3 (p.1.map ValueD.c)),.c (.sl 1 (p.2.map rowC))])]++famW k P) nG (fun s=>s.1≤aggs.length∧mapX (fun a=>pairX (tellF p.2 a)) (aggs.take s.1)=.ok s.2) (fun s=>aggs.length - s.1) (0,[]) ⟨Nat.zero_le _,rfl⟩ ?start2 ?round2
     case start2=>
      refine wk_k [(160,901),(161,161),(151,151),(900,900)] [(160,.tail TV 3),(161,.tail TES 1),(151,.darr TPA 1 (ptrsF k P.length)),(900,.box TP [.c (.sl 3 (p.1.map ValueD.c)),.c (.sl 1 (p.2.map rowC))])] k P hP40 (fun a=>if a=901 then 160 else a) rfl ?_ (fun a ha=>if_neg (by omega)) (fun q hq=>?_) ?_ ?_
      ·intro q hq a ha
       simp only[List.mem_cons,List.not_mem_nil,or_false] at hq
       rcases hq with rfl | rfl | rfl | rfl<;>(have ha:some _=some a:=ha;cases ha;rfl)
      ·have hb:=famW_big hq
       repeat (first|exact lookK q hq|refine app_far rfl hb ?_)
      ·intro q hq
       simp only[List.mem_cons,List.not_mem_nil,or_false] at hq
       rcases hq with rfl | rfl | rfl | rfl
       ·exact⟨rfl,kle_of rfl rfl ⟨rfl,rfl⟩⟩
       ·exact⟨rfl,kle_of rfl rfl ⟨rfl,rfl⟩⟩
       ·exact⟨rfl,kle_of rfl rfl ⟨rfl,rfl,dless_map fun j hj=>foc_self rfl rfl hP40 (List.mem_range.1 hj)⟩⟩
       ·exact⟨rfl,kle_of rfl rfl ⟨rfl,rfl,.inl rfl,rfl⟩⟩
      ·exact⟨.inl rfl,⟨rfl,rfl,rfl,rfl,rfl⟩,⟨rfl,rfl,rfl⟩,⟨rfl,rfl,rfl,rfl,by rw[List.append_nil]⟩,⟨rfl,rfl,rfl,rfl,rfl,rfl⟩,.inl rfl,.inl rfl,.inl rfl,PLe.int (by simp),.inl rfl,trivial⟩
     case round2=>
      rintro⟨j,vs⟩ ⟨hj,hv⟩
      have hj:j≤aggs.length:=hj
      have hv:mapX (fun a=>pairX (tellF p.2 a)) (aggs.take j)=.ok vs:=hv
      have hvl:vs.length=j:=by rw[mapX_len hv,List.length_take];omega
      have lookJ:∀q∈famW k P,hpL ([(160,.tail TV 3),(161,.tail TES 1),(151,.darr TPA 1 (ptrsF k P.length)),(900,.box TP [.c (.sl 3 (p.1.map ValueD.c)),.c (.sl 1 (p.2.map rowC))])]++famW k P) q.1=some q.2:=fun q hq=>famW_look hP40 rfl hq
      by_cases q:j<aggs.length
      ·have pt:=p_tell p.2 aggs[j] (by omega) (g2 _ (List.getElem_mem q)) (by
        rcases hcol.2 _ (List.getElem_mem q) with h | h | h
        ·exact .inl h
        ·exact .inr (.inl (by omega))
        ·exact .inr (.inr ⟨h.1,fun r hr=>h.2 r (hsub.1 r hr)⟩)) (fun r hr=>hN r (hsub.1 r hr))
       by_cases hz:(tellF p.2 aggs[j]).2=0
       ·rw[hz] at pt
        have hst:=mapX_step (f:=fun a=>pairX (tellF p.2 a)) q hv (by show pairX _=_;unfold pairX;rw[if_pos hz])
        ((conv=>whnf);repeat' ((first|(with_reducible first|apply a_|apply b_|apply c_)|((with_reducible first|apply d_|apply e_|apply f_|apply g_);focus first|omega|(simp only[q_]<;>omega))|((with_reducible first|apply i_|apply h_);focus first|omega|(simp only[q_]<;>omega))|((with_reducible apply h_);focus first|decide|kernel_rfl)|refine s_ (by decide) ?_|refine t_ (by decide) ?_|(refine Idx.mapI (f:=AggD.c) j rfl q ?_)|refine r_ pt rfl ?_|(refine Need.by 32 rfl (by simp only[List.length_map,List.length_append,List.length_singleton];omega) ?_)|with_reducible first|apply l_|apply m_|apply n_|apply o_|refine p_ (fun _=>?_) (fun _=>?_))<;>(conv=>whnf)))
        all_goals first | (exfalso;omega) | skip
        refine⟨(j+1,vs++[(tellF p.2 aggs[j]).1]),⟨q,hst⟩,by show aggs.length - (j+1)<aggs.length - j;omega,?_⟩
        refine wk_k [(160,63),(161,161),(151,151),(900,900)] [(160,.tail TV 3),(161,.tail TES 1),(151,.darr TPA 1 (ptrsF k P.length)),(900,.box TP [.c (.sl 3 (p.1.map ValueD.c)),.c (.sl 1 (p.2.map rowC))])] k P hP40 (fun a=>if a=63 then 160 else a) rfl ?_ (fun a ha=>if_neg (by omega)) (fun q hq=>?_) ?_ ?_
        ·intro q hq a ha
         simp only[List.mem_cons,List.not_mem_nil,or_false] at hq
         rcases hq with rfl | rfl | rfl | rfl<;>(have ha:some _=some a:=ha;cases ha;rfl)
        ·have hb:=famW_big hq
         repeat (first|exact lookJ q hq|refine app_far rfl hb ?_)
        ·intro q hq
         simp only[List.mem_cons,List.not_mem_nil,or_false] at hq
         rcases hq with rfl | rfl | rfl | rfl
         ·exact⟨rfl,kle_of rfl rfl ⟨rfl,rfl⟩⟩
         ·exact⟨rfl,kle_of rfl rfl ⟨rfl,rfl⟩⟩
         ·exact⟨rfl,kle_of rfl rfl ⟨rfl,rfl,dless_map fun j hj=>foc_self rfl rfl hP40 (List.mem_range.1 hj)⟩⟩
         ·exact⟨rfl,kle_of rfl rfl ⟨rfl,.inl rfl,.inl rfl,rfl⟩⟩
        ·exact⟨.inl rfl,⟨rfl,rfl,rfl,rfl,rfl⟩,⟨rfl,rfl,rfl⟩,⟨rfl,rfl,rfl,rfl,by simp only[List.map_append,List.append_assoc,List.map_cons,List.map_nil];rfl⟩,⟨rfl,rfl,rfl,rfl,rfl,rfl⟩,.inl rfl,.inl rfl,.inl rfl,.inl rfl,PLe.int (by show _=((j+1:Nat):Int);omega),trivial⟩
       ·have hst:=mapX_stop (f:=fun a=>pairX (tellF p.2 a)) q hv (by show pairX _=_;unfold pairX;rw[if_neg hz])
        have hrow:rowP aggs P[k]=.error (tellF p.2 aggs[j]).2:=by
         unfold rowP
         rw[hpk,hst]
        have hall:=mapX_stop hkN hm hrow
        rw[hall] at hR
        have hR:R=([],(tellF p.2 aggs[j]).2):=hR
        rw[hR]
        ((conv=>whnf);repeat' ((first|(with_reducible first|apply a_|apply b_|apply c_)|((with_reducible first|apply d_|apply e_|apply f_|apply g_);focus first|omega|(simp only[q_]<;>omega))|((with_reducible first|apply i_|apply h_);focus first|omega|(simp only[q_]<;>omega))|((with_reducible apply h_);focus first|decide|kernel_rfl)|refine s_ (by decide) ?_|refine t_ (by decide) ?_|(refine Idx.mapI (f:=AggD.c) j rfl q ?_)|refine r_ pt rfl ?_|with_reducible first|apply l_|apply m_|apply n_|apply o_|refine p_ (fun _=>?_) (fun _=>?_))<;>(conv=>whnf)))
        all_goals first|exact Ret.le ⟨.inr ⟨⟨1,rfl⟩,.inl rfl⟩,.inl rfl,rfl⟩ | (exfalso;omega) | skip
      ·have e:aggs.take j=aggs:=List.take_of_length_le (by omega)
       rw[e] at hv
       have hrow:rowP aggs P[k]=.ok (p.1++vs):=by
        unfold rowP
        rw[hpk,hv]
       have hall:=mapX_step hkN hm hrow
       ((conv=>whnf);repeat' ((first|(with_reducible first|apply a_|apply b_|apply c_)|((with_reducible first|apply d_|apply e_|apply f_|apply g_);focus first|omega|(simp only[q_]<;>omega))|((with_reducible first|apply i_|apply h_);focus first|omega|(simp only[q_]<;>omega))|((with_reducible apply h_);focus first|decide|kernel_rfl)|refine s_ (by decide) ?_|refine t_ (by decide) ?_|(refine Need.by 24 rfl (by simp only[List.length_map,List.length_singleton];omega) ?_)|with_reducible first|apply l_|apply m_|apply n_|apply o_|refine p_ (fun _=>?_) (fun _=>?_))<;>(conv=>whnf)))
       all_goals first | (exfalso;omega) | skip
       obtain⟨n1,n2⟩:=gk_g (show k<40 by omega)
       obtain⟨pre,hpre⟩:∃pre:List (Nat×Nat),pre=[(161,68),(151,151),(900,k+1+1000),(901,k+1+2000),(k+1000,900)]:=⟨_,rfl⟩
       have f161:fnL (fP pre (fun j=>decide (j≠k∧j≠k+1)) P.length) 161=some 68:=by rw[hpre];rfl
       have f151:fnL (fP pre (fun j=>decide (j≠k∧j≠k+1)) P.length) 151=some 151:=by rw[hpre];rfl
       have f900:fnL (fP pre (fun j=>decide (j≠k∧j≠k+1)) P.length) 900=some (k+1+1000):=by rw[hpre];rfl
       have f901:fnL (fP pre (fun j=>decide (j≠k∧j≠k+1)) P.length) 901=some (k+1+2000):=by rw[hpre];rfl
       have fk:fnL (fP pre (fun j=>decide (j≠k∧j≠k+1)) P.length) (k+1000)=some 900:=by
        rw[hpre]
        exact (fnL_skip (by omega)).trans ((fnL_skip (by omega)).trans ((fnL_skip (by omega)).trans ((fnL_skip (by omega)).trans fnL_hit)))
       have fk2:fnL (fP pre (fun j=>decide (j≠k∧j≠k+1)) P.length) (k+2000)=none:=fn_not (fun q hq=>by
        rw[hpre] at hq
        simp only[List.mem_cons,List.not_mem_nil,or_false] at hq
        rcases hq with rfl | rfl | rfl | rfl | rfl<;>(show _≠_;simp only;omega)) fun hm=>by
        obtain⟨j,h1,h2,h3⟩:=keysP_mem.1 hm
        have h2:=of_decide_eq_true h2
        omega
       have hkeys:∀q∈pre,∀j,j<P.length→decide (j≠k∧j≠k+1)=true→q.1≠j+1000∧q.1≠j+2000:=by
        intro q hq j hj hp
        have hp:=of_decide_eq_true hp
        rw[hpre] at hq
        simp only[List.mem_cons,List.not_mem_nil,or_false] at hq
        rcases hq with rfl | rfl | rfl | rfl | rfl<;>(show _≠_∧_≠_;simp only;omega)
       have fj:∀j,j<P.length→j≠k→j≠k+1→fnL (fP pre (fun j=>decide (j≠k∧j≠k+1)) P.length) (j+1000)=some (j+1000):=fun j hj h1 h2=>fn_pre (fun q hq=>(hkeys q hq j hj (decide_eq_true ⟨h1,h2⟩)).1) (keysP_mem.2 ⟨j,hj,decide_eq_true ⟨h1,h2⟩,.inl rfl⟩)
       refine⟨(k+1,P[k+1]?,m++[p.1++vs]),⟨hkN,rfl,hall⟩,by show P.length - (k+1)<P.length - k;omega,?_⟩
       refine wk_g pre (fun j=>decide (j≠k∧j≠k+1)) ((161,.tail TES 1)::(151,.darr TPA 1 (ptrsF (k+1) P.length))::focO P[k+1]?) (k+1) P hP40 (fun a=>if a=68 then 161 else if a=900 then k+1000 else if a=k+1+1000 then 900 else if a=k+1+2000 then 901 else a) (fun j=>boxW k j (P.getD j noPart)) hkeys ?_ ?_ ?_ ?_ ?_ ?_
       ·intro q hq a ha
        rcases List.mem_cons.1 hq with rfl | hq
        ·cases f161.symm.trans ha;rfl
        ·rcases List.mem_cons.1 hq with rfl | hq
         ·cases f151.symm.trans ha
          show (if 151=68 then _ else _)=151
          rw[if_neg (by decide),if_neg (by decide),if_neg (by omega),if_neg (by omega)]
         ·cases hp:P[k+1]? with
          | none=>rw[hp] at hq;cases hq
          | some p'=>
           rw[hp] at hq
           simp only[focO,List.mem_cons,List.not_mem_nil,or_false] at hq
           rcases hq with rfl | rfl
           ·cases f900.symm.trans ha
            show (if k+1+1000=68 then _ else _)=900
            rw[if_neg (by omega),if_neg (by omega),if_pos rfl]
           ·cases f901.symm.trans ha
            show (if k+1+2000=68 then _ else _)=901
            rw[if_neg (by omega),if_neg (by omega),if_neg (by omega),if_pos rfl]
       ·intro j hj hp
        have hp:=of_decide_eq_true hp
        show (if j+1000=68 then _ else _)=_∧(if j+2000=68 then _ else _)=_
        exact⟨by rw[if_neg (by omega),if_neg (by omega),if_neg (by omega),if_neg (by omega)],by rw[if_neg (by omega),if_neg (by omega),if_neg (by omega),if_neg (by omega)]⟩
       ·intro j hj hx hp
        have hp:=of_decide_eq_true hp
        refine⟨?_,?_,fun hf=>boxW_self hp.1 (.inr rfl) (gk_g (show j<40 by omega)).2 hf⟩
        ·have hl:=lookJ (j+1000,_) (famW_mem.2 ⟨j,hj,hp.1,.inl rfl⟩)
         repeat (first|exact hl|refine app_far rfl (show 1000≤j+1000 by omega) ?_)
        ·have hl:=lookJ (j+2000,_) (famW_mem.2 ⟨j,hj,hp.1,.inr rfl⟩)
         repeat (first|exact hl|refine app_far rfl (show 1000≤j+2000 by omega) ?_)
       ·intro j hj hx hp
        have hp:=of_decide_eq_false hp
        obtain rfl:j=k:=by omega
        refine⟨kle_of fk rfl ?_,fk2,fun a ha=>?_⟩
        ·rw[hgd]
         unfold boxW
         rw[if_pos (Nat.lt_succ_self j)]
         exact⟨rfl,.inl rfl,.inl rfl,rfl⟩
        ·cases fk.symm.trans ha;rfl
       ·intro q hq
        rcases List.mem_cons.1 hq with rfl | hq
        ·exact⟨rfl,kle_of f161 rfl ⟨rfl,rfl⟩⟩
        ·rcases List.mem_cons.1 hq with rfl | hq
         ·refine⟨rfl,kle_of f151 rfl ⟨rfl,rfl,dless_map fun j hj=>?_⟩⟩
          have hj:=List.mem_range.1 hj
          have nj:=(gk_g (show j<40 by omega)).1
          by_cases h1:j=k+1
          ·subst h1
           rw[foc_B,foc_ne (by omega) (by omega) (by omega)]
           exact⟨rfl,f900⟩
          ·by_cases h2:j=k
           ·subst h2
            rw[foc_B,foc_ne (by omega) (by omega) (by omega)]
            exact⟨nj,fk⟩
           ·rw[foc_ne (by omega) (by omega) (by omega),foc_ne (by omega) (by omega) (by omega)]
            exact⟨nj,fj j hj h2 h1⟩
         ·cases hp:P[k+1]? with
          | none=>rw[hp] at hq;cases hq
          | some p'=>
           rw[hp] at hq
           have h0:k+1<P.length:=(List.getElem?_eq_some_iff.1 hp).1
           have hg:P.getD (k+1) noPart=p':=by rw[List.getD_eq_getElem?_getD,hp];rfl
           have l1:=lookJ (k+1+1000,_) (famW_mem.2 ⟨k+1,h0,by omega,.inl rfl⟩)
           have l2:=lookJ (k+1+2000,_) (famW_mem.2 ⟨k+1,h0,by omega,.inr rfl⟩)
           rw[hg] at l1
           unfold boxW at l1
           rw[if_neg (show ¬k+1<k by omega)] at l1
           simp only[focO,List.mem_cons,List.not_mem_nil,or_false] at hq
           rcases hq with rfl | rfl
           ·refine⟨rfl,kle_of (b':=.box TP [.app (k+1+2000) TV 3 (p'.1.map ValueD.c),.c (.sl 1 (p'.2.map rowC))]) f900 (by repeat (first|exact l1|refine app_far rfl (show 1000≤k+1+1000 by omega) ?_)) ⟨rfl,⟨rfl,f901,rfl,rfl,rfl⟩,.inl rfl,rfl⟩⟩
           ·refine⟨rfl,kle_of (b':=.tail TV 3) f901 (by repeat (first|exact l2|refine app_far rfl (show 1000≤k+1+2000 by omega) ?_)) ⟨rfl,rfl⟩⟩
       ·exact⟨.inl rfl,⟨rfl,f161,rfl,rfl,(List.map_append (f:=rowC) (l₁:=m) (l₂:=[p.1++vs])).symm⟩,⟨rfl,f151,rfl,rfl,rfl,rfl⟩,.inl rfl,PLe.int (by show _=((k+1:Nat):Int);omega),trivial⟩
end
section
open Go.RowKit K
set_option maxRecDepth 100000
set_option maxRecDepth 100000
set_option maxHeartbeats 2000000 in
theorem p_groupof (l:List RowT) (hr:∀r∈l,r.length≤140737488355328) (hN:∀r∈l,∀v∈r,WholeP.In64 v.N) (hT:∀r∈l,∀v∈r,okText v.S) (by_:List Int) (aggs:List AggD) (hb:by_.length≤140737488355328) (ha:aggs.length≤140737488355328) :
  Pure Tryz.prog 8 [rwsV l,slV 1 iC by_,slV 2 AggD.c aggs] (.tup [rwsV (groupF l by_ aggs).1,pInt .i64 (groupF l by_ aggs).2]):=by
 have hml:(l.map rowC).length=l.length:=List.length_map _
 have hmb:(by_.map iC).length=by_.length:=List.length_map _
 have hma:(aggs.map AggD.c).length=aggs.length:=List.length_map _
 have pc:=p_groupcheck l hr by_ aggs hb ha
 obtain⟨R,hR⟩:∃R,R=groupF l by_ aggs:=⟨_,rfl⟩
 rw[← hR]
 unfold groupF at hR
 refine pure_of Tryz.func8 (by rfl) rfl (by kernel_rfl) (by rfl) ?_
 obtain⟨e0,he0⟩:∃e0,e0=if rowsChk l≠0 then rowsChk l else grpG l by_ aggs:=⟨_,rfl⟩
 rw[← he0] at pc
 by_cases h0:e0≠0
 ·have hR0:R=([],e0):=by
   rw[hR,he0]
   by_cases h1:rowsChk l≠0
   ·rw[if_pos h1,if_pos h1]
   ·rw[if_neg h1,if_neg h1]
    rw[he0,if_neg h1] at h0
    rw[if_pos h0]
  rw[hR0]
  ((conv=>whnf);repeat' ((first|(with_reducible first|apply a_|apply b_|apply c_)|((with_reducible first|apply d_|apply e_|apply f_|apply g_);focus first|omega|(simp only[q_]<;>omega))|((with_reducible first|apply i_|apply h_);focus first|omega|(simp only[q_]<;>omega))|((with_reducible apply h_);focus first|decide|kernel_rfl)|refine s_ (by decide) ?_|refine t_ (by decide) ?_|refine r_ pc rfl ?_|with_reducible first|apply l_|apply m_|apply n_|apply o_|refine p_ (fun _=>?_) (fun _=>?_))<;>(conv=>whnf)))
  all_goals first|exact Ret.le ⟨.inr ⟨⟨1,rfl⟩,.inl rfl⟩,.inl rfl,rfl⟩ | (exfalso;omega) | skip
 ·have h0:e0=0:=Decidable.of_not_not h0
  have h1:rowsChk l=0:=by
   by_cases h1:rowsChk l=0
   ·exact h1
   ·rw[if_pos h1] at he0;omega
  have h2:grpG l by_ aggs=0:=by rw[if_neg (not_not_intro h1)] at he0;omega
  rw[if_neg (not_not_intro h1),if_neg (not_not_intro h2)] at hR
  obtain⟨h40,h8⟩:=rowsChk_ok.1 h1
  obtain⟨g1,g2,g3,g4⟩:=grpG_ok h2
  have hcol:=cols_ok h1 g3 g4
  obtain⟨P,hP⟩:∃P,P=partsF by_ l:=⟨_,rfl⟩
  have hP40:P.length≤40:=by
   rcases parts_len by_ l with h | ⟨_,h⟩<;>(rw[← hP] at h;omega)
  obtain⟨c,c0,c1,c2⟩:=grp_walk by_ l
  rw[← hP] at hR c1 c2
  ((conv=>whnf);repeat' ((first|(with_reducible first|apply a_|apply b_|apply c_)|((with_reducible first|apply d_|apply e_|apply f_|apply g_);focus first|omega|(simp only[q_]<;>omega))|((with_reducible first|apply i_|apply h_);focus first|omega|(simp only[q_]<;>omega))|((with_reducible apply h_);focus first|decide|kernel_rfl)|refine s_ (by decide) ?_|refine t_ (by decide) ?_|refine r_ pc rfl ?_|with_reducible first|apply l_|apply m_|apply n_|apply o_|refine p_ (fun _=>?_) (fun _=>?_))<;>(conv=>whnf)))
  all_goals first | (exfalso;omega) | skip
  refine LoopC.mk (Nat×List RowT) (fun s=>[(0,rwsV l),(1,slV 1 iC by_),(2,slV 2 AggD.c aggs),(9,.d (.app 161 TES 1 (s.2.map rowC))),(10,pInt .i64 (s.1:Int))]) (fun _=>[(161,.tail TES 1)]) [161]
   (fun s=>s.1≤40∧mapX (rowP aggs) (P.take (c s.1))=.ok s.2) (fun s=>41 - s.1) (0,[]) ⟨Nat.zero_le _,by rw[c0];rfl⟩ ?start ?round
  case start=>refine⟨[],?_,?_,?_,?_⟩<;>repeat' (first|exact rfl|exact trivial|exact Or.inl rfl|exact PLe.int (by simp) | exact Nat.zero_lt_succ _|refine And.intro ?_ ?_)
  case round=>
   rintro⟨i,m⟩ ⟨hi,hm⟩
   have hi:i≤40:=hi
   have hm:mapX (rowP aggs) (P.take (c i))=.ok m:=hm
   by_cases q:i<l.length∨(i=0∧by_=[])
   ·obtain⟨key,hkey⟩:∃key,key=keyAt by_ l i:=⟨_,rfl⟩
    have c1i:=c1 i q
    rw[← hkey] at c1i
    have hq2:i<l.length∨(i=0∧by_.length=0):=q.elim .inl fun h=>.inr ⟨h.1,by rw[h.2];rfl⟩
    have hml2:m.length≤40:=by
     rw[mapX_len hm,List.length_take];omega
    ((conv=>whnf);repeat' ((first|(with_reducible first|apply a_|apply b_|apply c_)|((with_reducible first|apply d_|apply e_|apply f_|apply g_);focus first|omega|(simp only[q_]<;>omega))|((with_reducible first|apply i_|apply h_);focus first|omega|(simp only[q_]<;>omega))|((with_reducible apply h_);focus first|decide|kernel_rfl)|refine s_ (by decide) ?_|refine t_ (by decide) ?_|with_reducible first|apply l_|apply m_|apply n_|apply o_|refine p_ (fun _=>?_) (fun _=>?_))<;>(conv=>whnf)))
    all_goals first | (exfalso;omega) | skip
    all_goals
     refine LoopC.mk Nat (fun k=>[(0,rwsV l),(1,slV 1 iC by_),(2,slV 2 AggD.c aggs),(9,.d (.app 161 TES 1 (m.map rowC))),(10,pInt .i64 (i:Int)),(11,.d (.app 162 TES 1 ((ofK by_ (l.take k) key).map rowC))),(12,pBool (oldAt by_ l i k)),(13,pInt .i64 (k:Int))]) (fun _=>[(161,.tail TES 1),(162,.tail TES 1)]) [161,162] (fun k=>k≤l.length) (fun k=>l.length - k) 0 (Nat.zero_le _) ?_ ?_
     ·refine⟨[(161,161)],?_,?_,?_,?_⟩<;>repeat' (first|exact rfl|exact trivial|exact Or.inl rfl|exact PLe.int (by simp) | exact PLe.bool (by unfold oldAt;rw[Nat.zero_min];rfl) | exact Nat.zero_lt_succ _|refine And.intro ?_ ?_)
     ·intro k hk
      have hk:k≤l.length:=hk
      by_cases qk:k<l.length
      ·have qi:i<l.length:=by omega
       have hki:=keyAt_in (by_:=by_) qi
       rw[← hkey] at hki
       have so1:=p_someof l[k] by_ (by omega) (hcol.1 _ (List.getElem_mem qk))
       have so2:=p_someof l[i] by_ (by omega) (hcol.1 _ (List.getElem_mem qi))
       have sr:=p_samerow (keyOfR by_ l[k]) (keyOfR by_ l[i]) (by rw[keyOfR_len];omega)
       have hos:=old_step (by_:=by_) (i:=i) qk
       have hfs:=ofK_snoc by_ (l.take k) l[k] key
       rw[← take_snoc qk] at hfs
       have hfl:=ofK_len by_ (l.take k) key
       rw[List.length_take] at hfl
       rw[← hkey] at hos
       by_cases hs:keyOfR by_ l[k]=key
       ·rw[show listEqB ValueD.eqB (keyOfR by_ l[k]) (keyOfR by_ l[i])=true from (listEqB_iff ValueD.eqB_iff _ _).2 (hs.trans hki)] at sr
        rw[if_pos hs] at hfs
        rw[decide_eq_true hs,Bool.and_true] at hos
        cases ho:oldAt by_ l i k with
        | true=>
         rw[ho,Bool.true_or] at hos
         ((conv=>whnf);repeat' ((first|(with_reducible first|apply a_|apply b_|apply c_)|((with_reducible first|apply d_|apply e_|apply f_|apply g_);focus first|omega|(simp only[q_]<;>omega))|((with_reducible first|apply i_|apply h_);focus first|omega|(simp only[q_]<;>omega))|((with_reducible apply h_);focus first|decide|kernel_rfl)|refine s_ (by decide) ?_|refine t_ (by decide) ?_|(first|refine Idx.mapI (f:=rowC) k rfl qk ?_|refine Idx.mapI (f:=rowC) i rfl qi ?_)|refine r_ so1 rfl ?_|refine r_ so2 rfl ?_|refine r_ sr rfl ?_|(refine Need.by 24 rfl (by simp only[List.length_map,List.length_singleton];omega) ?_)|with_reducible first|apply l_|apply m_|apply n_|apply o_|refine p_ (fun _=>?_) (fun _=>?_))<;>(conv=>whnf)))
         all_goals first | (exfalso;omega) | skip
         all_goals exact⟨k+1,qk,by omega,[(161,161),(162,65)],rfl,rfl,⟨.inl rfl,.inl rfl,.inl rfl,⟨rfl,rfl,rfl,rfl,rfl⟩,.inl rfl,⟨rfl,rfl,rfl,rfl,by rw[hfs,List.map_append];rfl⟩,PLe.bool hos.symm,PLe.int (by omega),trivial⟩,⟨rfl,kle_of rfl rfl ⟨rfl,rfl⟩⟩,⟨rfl,kle_of rfl rfl ⟨rfl,rfl⟩⟩,trivial⟩
        | false=>
         rw[ho,Bool.false_or] at hos
         ((conv=>whnf);repeat' ((first|(with_reducible first|apply a_|apply b_|apply c_)|((with_reducible first|apply d_|apply e_|apply f_|apply g_);focus first|omega|(simp only[q_]<;>omega))|((with_reducible first|apply i_|apply h_);focus first|omega|(simp only[q_]<;>omega))|((with_reducible apply h_);focus first|decide|kernel_rfl)|refine s_ (by decide) ?_|refine t_ (by decide) ?_|(first|refine Idx.mapI (f:=rowC) k rfl qk ?_|refine Idx.mapI (f:=rowC) i rfl qi ?_)|refine r_ so1 rfl ?_|refine r_ so2 rfl ?_|refine r_ sr rfl ?_|(refine Need.by 24 rfl (by simp only[List.length_map,List.length_singleton];omega) ?_)|with_reducible first|apply l_|apply m_|apply n_|apply o_|refine p_ (fun _=>?_) (fun _=>?_))<;>(conv=>whnf)))
         all_goals first | (exfalso;omega) | skip
         all_goals exact⟨k+1,qk,by omega,[(161,161),(162,65)],rfl,rfl,⟨.inl rfl,.inl rfl,.inl rfl,⟨rfl,rfl,rfl,rfl,rfl⟩,.inl rfl,⟨rfl,rfl,rfl,rfl,by rw[hfs,List.map_append];rfl⟩,PLe.bool (by rw[hos,Bool.eq_iff_iff];simp),PLe.int (by omega),trivial⟩,⟨rfl,kle_of rfl rfl ⟨rfl,rfl⟩⟩,⟨rfl,kle_of rfl rfl ⟨rfl,rfl⟩⟩,trivial⟩
       ·rw[show listEqB ValueD.eqB (keyOfR by_ l[k]) (keyOfR by_ l[i])=false by rw[Bool.eq_false_iff];intro h;exact hs (((listEqB_iff ValueD.eqB_iff _ _).1 h).trans hki.symm)] at sr
        rw[if_neg hs,List.append_nil] at hfs
        rw[decide_eq_false hs,Bool.and_false,Bool.or_false] at hos
        ((conv=>whnf);repeat' ((first|(with_reducible first|apply a_|apply b_|apply c_)|((with_reducible first|apply d_|apply e_|apply f_|apply g_);focus first|omega|(simp only[q_]<;>omega))|((with_reducible first|apply i_|apply h_);focus first|omega|(simp only[q_]<;>omega))|((with_reducible apply h_);focus first|decide|kernel_rfl)|refine s_ (by decide) ?_|refine t_ (by decide) ?_|(first|refine Idx.mapI (f:=rowC) k rfl qk ?_|refine Idx.mapI (f:=rowC) i rfl qi ?_)|refine r_ so1 rfl ?_|refine r_ so2 rfl ?_|refine r_ sr rfl ?_|with_reducible first|apply l_|apply m_|apply n_|apply o_|refine p_ (fun _=>?_) (fun _=>?_))<;>(conv=>whnf)))
        all_goals first | (exfalso;omega) | skip
        all_goals exact⟨k+1,qk,by omega,[(161,161),(162,162)],rfl,rfl,⟨.inl rfl,.inl rfl,.inl rfl,⟨rfl,rfl,rfl,rfl,rfl⟩,.inl rfl,⟨rfl,rfl,rfl,rfl,by rw[hfs]⟩,PLe.bool hos.symm,PLe.int (by omega),trivial⟩,⟨rfl,kle_of rfl rfl ⟨rfl,rfl⟩⟩,⟨rfl,kle_of rfl rfl ⟨rfl,rfl⟩⟩,trivial⟩
      ·obtain rfl:k=l.length:=by omega
       rw[List.take_length]
       rcases c1i with ⟨ho,hc⟩ | ⟨ho,hc,hp⟩
       ·rw[ho]
        ((conv=>whnf);repeat' ((first|(with_reducible first|apply a_|apply b_|apply c_)|((with_reducible first|apply d_|apply e_|apply f_|apply g_);focus first|omega|(simp only[q_]<;>omega))|((with_reducible first|apply i_|apply h_);focus first|omega|(simp only[q_]<;>omega))|((with_reducible apply h_);focus first|decide|kernel_rfl)|refine s_ (by decide) ?_|refine t_ (by decide) ?_|with_reducible first|apply l_|apply m_|apply n_|apply o_|refine p_ (fun _=>?_) (fun _=>?_))<;>(conv=>whnf)))
        all_goals first | (exfalso;omega) | skip
        all_goals exact⟨(i+1,m),⟨by show i+1≤40;omega,by show mapX _ (P.take (c (i+1)))=_;rw[hc];exact hm⟩,by show 41 - (i+1)<41 - i;omega,[(161,161)],rfl,rfl,⟨.inl rfl,.inl rfl,.inl rfl,⟨rfl,rfl,rfl,rfl,rfl⟩,PLe.int (by show _=((i+1:Nat):Int);omega),trivial⟩,⟨rfl,kle_of rfl rfl ⟨rfl,rfl⟩⟩,trivial⟩
       ·rw[ho]
        have hpc:c i<P.length:=(List.getElem?_eq_some_iff.1 hp).1
        have hpg:P[c i]=(key,ofK by_ l key):=by
         rw[List.getElem?_eq_getElem hpc] at hp
         exact Option.some.inj hp
        have hfl:=ofK_len by_ l key
        have hkl:key.length≤8:=by
         have:=parts_keys by_ l (key,ofK by_ l key) (by rw[← hP,← hpg];exact List.getElem_mem hpc)
         have:key.length=by_.length:=this
         omega
        have fin:∀j vs,j≤aggs.length→mapX (fun a=>pairX (tellF (ofK by_ l key) a)) (aggs.take j)=.ok vs→vs.length=j:=fun j vs hj hv=>by rw[mapX_len hv,List.length_take];omega
        rcases Nat.eq_zero_or_pos l.length with hl | hl
        case' inl=>
         have hk0:key=[]:=by rw[hkey];exact keyAt_out (by omega)
         ((conv=>whnf);repeat' ((first|(with_reducible first|apply a_|apply b_|apply c_)|((with_reducible first|apply d_|apply e_|apply f_|apply g_);focus first|omega|(simp only[q_]<;>omega))|((with_reducible first|apply i_|apply h_);focus first|omega|(simp only[q_]<;>omega))|((with_reducible apply h_);focus first|decide|kernel_rfl)|refine s_ (by decide) ?_|refine t_ (by decide) ?_|with_reducible first|apply l_|apply m_|apply n_|apply o_|refine p_ (fun _=>?_) (fun _=>?_))<;>(conv=>whnf)))
         all_goals first | (exfalso;omega) | skip
         all_goals
          refine LoopC.mk (Nat×List ValueD) (fun s=>[(0,rwsV l),(1,slV 1 iC by_),(2,slV 2 AggD.c aggs),(9,.d (.app 161 TES 1 (m.map rowC))),(10,pInt .i64 (i:Int)),(11,rwsV (ofK by_ l key)),(14,.d (.app 160 TV 3 ((key++s.2).map ValueD.c))),(15,pInt .i64 (s.1:Int))]) (fun _=>[(161,.tail TES 1),(160,.tail TV 3)]) [161,160]
           (fun s=>s.1≤aggs.length∧mapX (fun a=>pairX (tellF (ofK by_ l key) a)) (aggs.take s.1)=.ok s.2) (fun s=>aggs.length - s.1) (0,[]) ⟨Nat.zero_le _,rfl⟩ ⟨[(161,161)],rfl,rfl,⟨.inl rfl,.inl rfl,.inl rfl,⟨rfl,rfl,rfl,rfl,rfl⟩,.inl rfl,rfl,⟨rfl,rfl,by decide,by rw[hk0];rfl,rfl⟩,.inl rfl,trivial⟩,⟨rfl,kle_of rfl rfl ⟨rfl,rfl⟩⟩,⟨rfl,kle_new rfl (by decide)⟩,trivial⟩ ?_
        case' inr=>
         have qi:i<l.length:=by omega
         have so:=s_someof l[i] by_ (by omega) (hcol.1 _ (List.getElem_mem qi))
         rw[← keyAt_in qi,← hkey] at so
         ((conv=>whnf);repeat' ((first|(with_reducible first|apply a_|apply b_|apply c_)|((with_reducible first|apply d_|apply e_|apply f_|apply g_);focus first|omega|(simp only[q_]<;>omega))|((with_reducible first|apply i_|apply h_);focus first|omega|(simp only[q_]<;>omega))|((with_reducible apply h_);focus first|decide|kernel_rfl)|refine s_ (by decide) ?_|refine t_ (by decide) ?_|(refine Idx.mapI (f:=rowC) i rfl qi ?_)|(refine CallP.ret [(NK,81)] _ _ _ _ _ _ _ so rfl rfl rfl rfl trivial ?_)|with_reducible first|apply l_|apply m_|apply n_|apply o_|refine p_ (fun _=>?_) (fun _=>?_))<;>(conv=>whnf)))
         all_goals first | (exfalso;omega) | skip
         all_goals
          refine LoopC.mk (Nat×List ValueD) (fun s=>[(0,rwsV l),(1,slV 1 iC by_),(2,slV 2 AggD.c aggs),(9,.d (.app 161 TES 1 (m.map rowC))),(10,pInt .i64 (i:Int)),(11,rwsV (ofK by_ l key)),(14,.d (.app 160 TV 3 ((key++s.2).map ValueD.c))),(15,pInt .i64 (s.1:Int))]) (fun _=>[(161,.tail TES 1),(160,.tail TV 3)]) [161,160]
           (fun s=>s.1≤aggs.length∧mapX (fun a=>pairX (tellF (ofK by_ l key) a)) (aggs.take s.1)=.ok s.2) (fun s=>aggs.length - s.1) (0,[]) ⟨Nat.zero_le _,rfl⟩ ⟨[(161,161),(160,81)],rfl,rfl,⟨.inl rfl,.inl rfl,.inl rfl,⟨rfl,rfl,rfl,rfl,rfl⟩,.inl rfl,rfl,⟨rfl,rfl,rfl,rfl,by rw[List.append_nil]⟩,.inl rfl,trivial⟩,⟨rfl,kle_of rfl rfl ⟨rfl,rfl⟩⟩,⟨rfl,kle_of rfl rfl ⟨rfl,rfl⟩⟩,trivial⟩ ?_
        all_goals
         rintro⟨j,vs⟩ ⟨hj,hv⟩
         have hj:j≤aggs.length:=hj
         have hv:mapX (fun a=>pairX (tellF (ofK by_ l key) a)) (aggs.take j)=.ok vs:=hv
         have hvl:=fin j vs hj hv
         by_cases qj:j<aggs.length
         ·have pt:=p_toldof (ofK by_ l key) aggs[j] (by omega) (g2 _ (List.getElem_mem qj)) (by
           rcases hcol.2 _ (List.getElem_mem qj) with h | h | h
           ·exact .inl h
           ·exact .inr (.inl (by omega))
           ·exact .inr (.inr ⟨h.1,fun r hr=>h.2 r (ofK_in hr)⟩)) (fun r hr=>hN r (ofK_in hr)) (fun r hr=>hT r (ofK_in hr))
          by_cases hz:(tellF (ofK by_ l key) aggs[j]).2=0
          ·rw[hz] at pt
           have hst:=mapX_step (f:=fun a=>pairX (tellF (ofK by_ l key) a)) qj hv (by show pairX _=_;unfold pairX;rw[if_pos hz])
           ((conv=>whnf);repeat' ((first|(with_reducible first|apply a_|apply b_|apply c_)|((with_reducible first|apply d_|apply e_|apply f_|apply g_);focus first|omega|(simp only[q_]<;>omega))|((with_reducible first|apply i_|apply h_);focus first|omega|(simp only[q_]<;>omega))|((with_reducible apply h_);focus first|decide|kernel_rfl)|refine s_ (by decide) ?_|refine t_ (by decide) ?_|(refine Idx.mapI (f:=AggD.c) j rfl qj ?_)|refine r_ pt rfl ?_|(refine Need.by 32 rfl (by simp only[List.length_map,List.length_append,List.length_singleton];omega) ?_)|with_reducible first|apply l_|apply m_|apply n_|apply o_|refine p_ (fun _=>?_) (fun _=>?_))<;>(conv=>whnf)))
           all_goals first | (exfalso;omega) | skip
           all_goals exact⟨(j+1,vs++[(tellF (ofK by_ l key) aggs[j]).1]),⟨qj,hst⟩,by show aggs.length - (j+1)<aggs.length - j;omega,[(161,161),(160,103)],rfl,rfl,⟨.inl rfl,.inl rfl,.inl rfl,⟨rfl,rfl,rfl,rfl,rfl⟩,.inl rfl,.inl rfl,⟨rfl,rfl,rfl,rfl,by simp only[List.map_append,List.append_assoc,List.map_cons,List.map_nil];rfl⟩,PLe.int (by show _=((j+1:Nat):Int);omega),trivial⟩,⟨rfl,kle_of rfl rfl ⟨rfl,rfl⟩⟩,⟨rfl,kle_of rfl rfl ⟨rfl,rfl⟩⟩,trivial⟩
          ·have hst:=mapX_stop (f:=fun a=>pairX (tellF (ofK by_ l key) a)) qj hv (by show pairX _=_;unfold pairX;rw[if_neg hz])
           have hrow:rowP aggs P[c i]=.error (tellF (ofK by_ l key) aggs[j]).2:=by
            unfold rowP
            rw[hpg,hst]
           rw[mapX_stop hpc hm hrow] at hR
           have hR:R=([],(tellF (ofK by_ l key) aggs[j]).2):=hR
           rw[hR]
           ((conv=>whnf);repeat' ((first|(with_reducible first|apply a_|apply b_|apply c_)|((with_reducible first|apply d_|apply e_|apply f_|apply g_);focus first|omega|(simp only[q_]<;>omega))|((with_reducible first|apply i_|apply h_);focus first|omega|(simp only[q_]<;>omega))|((with_reducible apply h_);focus first|decide|kernel_rfl)|refine s_ (by decide) ?_|refine t_ (by decide) ?_|(refine Idx.mapI (f:=AggD.c) j rfl qj ?_)|refine r_ pt rfl ?_|with_reducible first|apply l_|apply m_|apply n_|apply o_|refine p_ (fun _=>?_) (fun _=>?_))<;>(conv=>whnf)))
           all_goals first|exact Ret.le ⟨.inr ⟨⟨1,rfl⟩,.inl rfl⟩,.inl rfl,rfl⟩ | (exfalso;omega) | skip
         ·have e:aggs.take j=aggs:=List.take_of_length_le (by omega)
          rw[e] at hv
          have hrow:rowP aggs P[c i]=.ok (key++vs):=by
           unfold rowP
           rw[hpg,hv]
          have hall:=mapX_step hpc hm hrow
          rw[← hc] at hall
          ((conv=>whnf);repeat' ((first|(with_reducible first|apply a_|apply b_|apply c_)|((with_reducible first|apply d_|apply e_|apply f_|apply g_);focus first|omega|(simp only[q_]<;>omega))|((with_reducible first|apply i_|apply h_);focus first|omega|(simp only[q_]<;>omega))|((with_reducible apply h_);focus first|decide|kernel_rfl)|refine s_ (by decide) ?_|refine t_ (by decide) ?_|(refine Need.by 24 rfl (by simp only[List.length_map,List.length_singleton];omega) ?_)|with_reducible first|apply l_|apply m_|apply n_|apply o_|refine p_ (fun _=>?_) (fun _=>?_))<;>(conv=>whnf)))
          all_goals first | (exfalso;omega) | skip
          all_goals exact⟨(i+1,m++[key++vs]),⟨by show i+1≤40;omega,hall⟩,by show 41 - (i+1)<41 - i;omega,[(161,107)],rfl,rfl,⟨.inl rfl,.inl rfl,.inl rfl,⟨rfl,rfl,rfl,rfl,(List.map_append (f:=rowC) (l₁:=m) (l₂:=[key++vs])).symm⟩,PLe.int (by show _=((i+1:Nat):Int);omega),trivial⟩,⟨rfl,kle_of rfl rfl ⟨rfl,rfl⟩⟩,trivial⟩
   ·have hc:=c2 i q
    rw[hc,List.take_of_length_le (Nat.le_refl _)] at hm
    rw[hm] at hR
    have hR:R=(m,0):=hR
    rw[hR]
    have hb2:¬i<l.length∧(i=0→by_.length≠0):=⟨fun h=>q (.inl h),fun h1 h2=>q (.inr ⟨h1,List.eq_nil_of_length_eq_zero h2⟩)⟩
    ((conv=>whnf);repeat' ((first|(with_reducible first|apply a_|apply b_|apply c_)|((with_reducible first|apply d_|apply e_|apply f_|apply g_);focus first|omega|(simp only[q_]<;>omega))|((with_reducible first|apply i_|apply h_);focus first|omega|(simp only[q_]<;>omega))|((with_reducible apply h_);focus first|decide|kernel_rfl)|refine s_ (by decide) ?_|refine t_ (by decide) ?_|with_reducible first|apply l_|apply m_|apply n_|apply o_|refine p_ (fun _=>?_) (fun _=>?_))<;>(conv=>whnf)))
    all_goals first|exact Ret.mk rfl | (exfalso;omega) | skip
end
section
open Go.RowKit K
set_option maxRecDepth 100000
set_option maxRecDepth 100000
theorem gX_nz {α β:Type} {f:α→Except Int β} (hf:∀a,f a≠.error 0):∀l:List α,mapX f l≠.error 0
 | [],h=>by rw[mapX] at h;cases h
 | a::l,h=>by
  rw[mapX] at h
  cases h1:f a with
  | error x=>rw[h1] at h;cases h;exact hf a h1
  | ok b=>
   rw[h1] at h
   cases h2:mapX f l with
   | error x=>rw[h2] at h;cases h;exact gX_nz hf l h2
   | ok bs=>rw[h2] at h;cases h
theorem gX_all {α β:Type} {f:α→Except Int β} {g:α→β}:∀{l:List α},(∀a∈l,f a=.ok (g a))→mapX f l=.ok (l.map g)
 | [],_=>rfl
 | a::l,h=>by rw[mapX,h a List.mem_cons_self,gX_all fun b hb=>h b (List.mem_cons_of_mem _ hb)];rfl
theorem gX_one {α β:Type} {f:α→Except Int β}:∀{l:List α} {bs:List β},mapX f l=.ok bs→∀k (h:k<l.length) (h2:k<bs.length),f l[k]=.ok bs[k]
 | [],bs,h,k,hk,h2=>by cases hk
 | a::l,bs,h,k,hk,h2=>by
  rw[mapX] at h
  split at h
  ·cases h
  ·rename_i b hb
   split at h
   ·cases h
   ·rename_i cs hc
    cases h
    cases k with
    | zero=>exact hb
    | succ k=>exact gX_one hc k (by simpa using hk) (by simpa using h2)
theorem rowP_nz (aggs:List AggD) (p:PartD):rowP aggs p≠.error 0:=by
 unfold rowP
 cases h:mapX (fun a=>pairX (tellF p.2 a)) aggs with
 | error e=>
  intro q
  cases q
  refine gX_nz (fun a=>?_) _ h
  unfold pairX
  split
  ·intro q;cases q
  ·rename_i h2;intro q;exact h2 (Except.error.inj q)
 | ok vs=>intro q;cases q
theorem rowP_len {aggs:List AggD} {p:PartD} {r:RowT} (h:rowP aggs p=.ok r):r.length=p.1.length+aggs.length:=by
 unfold rowP at h
 split at h
 ·rename_i vs hv;cases h;rw[List.length_append,mapX_len hv]
 ·cases h
theorem groupF_ok {l:List RowT} {by_:List Int} {aggs:List AggD} (h:(groupF l by_ aggs).2=0):rowsChk l=0∧grpG l by_ aggs=0∧∃m,mapX (rowP aggs) (partsF by_ l)=.ok m∧groupF l by_ aggs=(m,0):=by
 by_cases h1:rowsChk l≠0
 ·unfold groupF at h;rw[if_pos h1] at h;exact absurd h h1
 ·by_cases h2:grpG l by_ aggs≠0
  ·unfold groupF at h;rw[if_neg h1,if_pos h2] at h;exact absurd h h2
  ·refine⟨Decidable.of_not_not h1,Decidable.of_not_not h2,?_⟩
   unfold groupF at h ⊢
   rw[if_neg h1,if_neg h2] at h ⊢
   cases hm:mapX (rowP aggs) (partsF by_ l) with
   | ok m=>exact⟨m,rfl,rfl⟩
   | error e=>
    rw[hm] at h
    have h:e=0:=h
    subst h
    exact absurd hm (gX_nz (rowP_nz aggs) _)
theorem groupF_no {l:List RowT} {by_:List Int} {aggs:List AggD} (h:(groupF l by_ aggs).2≠0):(groupF l by_ aggs).1=[]:=by
 unfold groupF at h ⊢
 split
 ·rfl
 ·split
  ·rfl
  ·rename_i h1 h2
   rw[if_neg h1,if_neg h2] at h
   cases hm:mapX (rowP aggs) (partsF by_ l) with
   | ok m=>rw[hm] at h;exact absurd rfl h
   | error e=>rfl
theorem groupF_of {l:List RowT} {by_:List Int} {aggs:List AggD} {m:List RowT} (h1:rowsChk l=0) (h2:grpG l by_ aggs=0) (hm:mapX (rowP aggs) (partsF by_ l)=.ok m):groupF l by_ aggs=(m,0):=by
 unfold groupF
 rw[if_neg (not_not_intro h1),if_neg (not_not_intro h2),hm]
theorem grpG_len {l:List RowT} {by_:List Int} {aggs:List AggD} (h:grpG l by_ aggs=0):by_.length+aggs.length≤8:=by
 unfold grpG at h
 by_cases h1:8<by_.length+aggs.length
 ·rw[if_pos h1] at h;cases h
 ·omega
theorem parts_40 {by_:List Int} {l:List RowT} (h:l.length≤40):(partsF by_ l).length≤40:=by
 rcases parts_len by_ l with h | ⟨_,h⟩<;>omega
theorem groupF_small (l:List RowT) (by_:List Int) (aggs:List AggD):(groupF l by_ aggs).1.length≤40∧∀r∈(groupF l by_ aggs).1,r.length≤16:=by
 by_cases h:(groupF l by_ aggs).2=0
 ·obtain⟨h1,h2,m,hm,e⟩:=groupF_ok h
  rw[e]
  have hl:=mapX_len hm
  have h40:=parts_40 (by_:=by_) (rowsChk_ok.1 h1).1
  have h8:=grpG_len h2
  refine⟨by show m.length≤40;omega,fun r hr=>?_⟩
  obtain⟨k,hk,rfl⟩:=List.getElem_of_mem hr
  have hk:k<m.length:=hk
  have h3:=gX_one hm k (by omega) hk
  have h4:=rowP_len h3
  have h5:=parts_keys by_ l _ (List.getElem_mem (show k<(partsF by_ l).length by omega))
  show m[k].length≤16
  omega
 ·rw[groupF_no h]
  exact⟨Nat.zero_le _,fun r h=>by cases h⟩
theorem sum_set {f:PartD→Int}:∀{ps:List PartD} {i:Nat} (h:i<ps.length) (p:PartD),((ps.set i p).map f).sum=(ps.map f).sum - f ps[i]+f p
 | q::ps,0,h,p=>by
  rw[List.set_cons_zero,List.map_cons,List.sum_cons,List.map_cons,List.sum_cons]
  show _=f q+_ - f q+f p
  omega
 | q::ps,i+1,h,p=>by
  have hi:i<ps.length:=by simpa using h
  rw[List.set_cons_succ,List.map_cons,List.sum_cons,List.map_cons,List.sum_cons,sum_set hi p]
  show _=f q+_ - f ps[i]+f p
  omega
theorem parts_sum {φ:List RowT→Int} (h0:φ []=0) (h1:∀rows r,φ (rows++[r])=φ rows+φ [r]) (by_:List Int) (l:List RowT):((partsF by_ l).map fun p=>φ p.2).sum=φ l:=by
 induction l using snoc_ind0 with
 | h0=>
  unfold partsF
  rw[List.foldl_nil]
  split
  ·show φ []+0=φ [];omega
  ·exact h0.symm
 | h l r ih=>
  have e:partsF by_ (l++[r])=putP (keyOfR by_ r) r (partsF by_ l):=by
   unfold partsF
   rw[List.foldl_append];rfl
  rw[e,h1,← ih]
  cases hf:findP (partsF by_ l) (keyOfR by_ r) with
  | some i=>
   obtain⟨hi,_,_⟩:=findP_some hf
   rw[putP_hit hf hi,sum_set hi]
   show _ - φ (partsF by_ l)[i].2+φ ((partsF by_ l)[i].2++[r])=_
   rw[h1];omega
  | none=>
   rw[putP_new hf,List.map_append,List.sum_append]
   show _+(φ [r]+0)=_
   omega
theorem parts_nodup (by_:List Int) (l:List RowT):((partsF by_ l).map Prod.fst).Nodup:=by
 by_cases hb:by_=[]
 ·subst hb;rw[partsF_nil];simp
 ·rw[partsF_keys hb,List.map_map]
  have:(Prod.fst ∘ fun k=>(k,ofK by_ l k))=(id:RowT→RowT):=rfl
  rw[this,List.map_id]
  exact keysE_nodup by_ l
abbrev cntA:AggD:=⟨1,-1⟩
abbrev cntV (p:PartD):ValueD:=⟨1,(p.2.length:Int),[]⟩
theorem rowP_cnt (p:PartD):rowP [cntA] p=.ok (p.1++[cntV p]):=by
 have:tellF p.2 cntA=(cntV p,0):=if_pos ⟨rfl,by decide⟩
 unfold rowP
 rw[mapX,this]
 rfl
theorem group_cnt {l:List RowT} {by_:List Int} (h:(groupF l by_ [cntA]).2=0):groupF l by_ [cntA]=((partsF by_ l).map fun p=>p.1++[cntV p],0):=by
 obtain⟨h1,h2,m,hm,e⟩:=groupF_ok h
 rw[gX_all (g:=fun p=>p.1++[cntV p]) fun p _=>rowP_cnt p] at hm
 cases hm
 exact e
def allC (w:Nat):List Int:=(List.range w).map fun i:Nat=>(i:Int)
theorem keyOf_all (r:RowT):keyOfR (allC r.length) r=r:=by
 unfold keyOfR allC
 rw[List.map_map]
 refine List.ext_getElem (by rw[List.length_map,List.length_range]) fun i h1 h2=>?_
 rw[List.getElem_map,List.getElem_range]
 show r.getD ((i:Nat):Int).toNat noV=r[i]
 rw[Int.toNat_natCast,List.getD_eq_getElem?_getD,List.getElem?_eq_getElem h2];rfl
theorem keysE_dist {l:List RowT} {w:Nat} (h:∀r∈l,r.length=w):∀k,k≤l.length→keysE (allC w) (l.take k)=distR l k
 | 0,_=>rfl
 | k+1,hk=>by
  have hq:k<l.length:=hk
  have hkey:∀r∈l,keyOfR (allC w) r=r:=fun r hr=>by rw[← h r hr];exact keyOf_all r
  rw[distR_succ hq,take_snoc hq,keysE_snoc,keysE_dist h k (by omega),hkey _ (List.getElem_mem hq)]
  have hm:l[k]∈distR l k↔¬howF (l.take k) l[k]=0:=by
   rw[← keysE_dist h k (by omega),keysE_mem,howF_zero,Decidable.not_not]
   constructor
   ·rintro⟨r,hr,e⟩
    rw[hkey r (List.mem_of_mem_take hr)] at e
    rw[← e];exact hr
   ·intro hr
    exact⟨_,hr,hkey _ (List.getElem_mem hq)⟩
  by_cases q:howF (l.take k) l[k]=0
  ·rw[if_pos q,if_neg (fun e=>(hm.1 e) q)]
  ·rw[if_neg q,if_pos (hm.2 q),List.append_nil]
theorem placesF_all {l:List RowT} {w:Nat} (h:widthF l=w):∀{at_:List Int},(∀c∈at_,0≤c∧c<(w:Int))→placesF l at_=0
 | [],_=>rfl
 | c::cs,hc=>by
  have h1:=hc c List.mem_cons_self
  rw[placesF,if_neg (by omega)]
  exact placesF_all h fun x hx=>hc x (List.mem_cons_of_mem _ hx)
theorem group_all {l:List RowT} (h:rowsChk l=0) (hw:0<widthF l):groupF l (allC (widthF l)) []=(distR l l.length,0):=by
 obtain⟨h40,h8⟩:=rowsChk_ok.1 h
 have hlen:(allC (widthF l)).length=widthF l:=by unfold allC;rw[List.length_map,List.length_range]
 have hw8:widthF l≤8:=by
  cases l with
  | nil=>exact absurd hw (Nat.lt_irrefl 0)
  | cons r l=>exact (h8 r List.mem_cons_self).1
 have hne:allC (widthF l)≠[]:=fun e=>by rw[e] at hlen;simp at hlen;omega
 have hg:grpG l (allC (widthF l)) []=0:=by
  unfold grpG
  rw[if_neg (by rw[hlen];simp;omega),if_neg (by simp),placesF_all rfl (by
   intro c hc
   unfold allC at hc
   obtain⟨i,hi,rfl⟩:=List.mem_map.1 hc
   have:=List.mem_range.1 hi
   omega),if_neg (by decide)]
  rfl
 refine groupF_of h hg ?_
 rw[gX_all (g:=Prod.fst) fun p _=>by unfold rowP;rw[mapX];exact congrArg Except.ok (List.append_nil _),partsF_keys hne,List.map_map]
 have:(Prod.fst ∘ fun k=>(k,ofK (allC (widthF l)) l k))=(id:RowT→RowT):=rfl
 rw[this,List.map_id,← keysE_dist (w:=widthF l) (fun r hr=>(h8 r hr).2.1) l.length (Nat.le_refl _),List.take_length]
end
end Go.Proofs.YtegpnpdnanfhbaaGreatDoor.Pm
