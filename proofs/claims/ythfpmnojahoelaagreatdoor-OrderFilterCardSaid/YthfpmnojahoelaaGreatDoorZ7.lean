/- Parts of the proof, one behind the other: PrKey PbDist PxSplit PbProj PbRef2 PrUnk PrLaws PrKeyLaws PbThm PxMk PbBegun PbLaws PbLaws2 PmLikeR PmMatchOf PxNodeR PxNodeR2 PxValue PxSame PxFoldE PxFold PxFold2 PxFold3 PxSplit2 PmNil PxPush PxPush2 PxBegun PbFil PbLaws4 PbOrd PbRef4 PxBegun2 PxPlainB PxPlainC PbLaws5 PbLaws8. Conditions: none beyond what each theorem says. -/
import Derived.Test.YthfpmnojahoelaaGreatDoorZ6
set_option linter.unusedVariables false
set_option linter.unusedSimpArgs false
namespace Go.Proofs.YthfpmnojahoelaaGreatDoor.Pm
section
open Go.RowKit K NumP NumW NumRd NumZ NumL
set_option maxRecDepth 100000
theorem Wr.u64w {x:Int} {K:Int→Prop} (h:K (x%18446744073709551616)):Wr .u64 x K:=⟨_,by rw[IntKind.wrap_u64],h⟩
theorem xor_top (u:Nat) (h:u<18446744073709551616):u ^^^ 9223372036854775808=(u+9223372036854775808)%18446744073709551616:=by
  have low:∀y:Nat,y<9223372036854775808→y ^^^ 9223372036854775808=9223372036854775808+y:=by
    intro y hy
    apply Nat.eq_of_testBit_eq
    intro i
    rw[Nat.testBit_xor]
    have e:(9223372036854775808:Nat)=2^63:=by decide
    rw[e,Nat.testBit_two_pow]
    rcases Nat.lt_trichotomy i 63 with hi | rfl | hi
    · rw[Nat.testBit_two_pow_add_gt hi,decide_eq_false (by omega)];simp
    · rw[Nat.testBit_two_pow_add_eq];simp
    · rw[decide_eq_false (by omega)]
      have h1:y.testBit i=false:=Nat.testBit_lt_two_pow (Nat.lt_of_lt_of_le (by omega:y<2^64) (Nat.pow_le_pow_right (by decide) (by omega)))
      have h2:(2^63+y).testBit i=false:=Nat.testBit_lt_two_pow (Nat.lt_of_lt_of_le (by omega:2^63+y<2^64) (Nat.pow_le_pow_right (by decide) (by omega)))
      rw[h1,h2];rfl
  by_cases hu:u<9223372036854775808
  · rw[low u hu,Nat.mod_eq_of_lt (by omega),Nat.add_comm]
  · have e:=low (u - 9223372036854775808) (by omega)
    rw[show 9223372036854775808+(u - 9223372036854775808)=u by omega] at e
    conv=>lhs;rw[← e]
    rw[Nat.xor_assoc,Nat.xor_self,Nat.xor_zero]
    omega
theorem xor_turn {n:Int} (h:okInt n):((BitVec.ofInt 64 (n%18446744073709551616) ^^^ BitVec.ofInt 64 9223372036854775808).toNat:Int)=n+9223372036854775808:=by
  obtain⟨h1,h2⟩:=h
  obtain⟨u,hu⟩:∃u:Nat,n%18446744073709551616=u:=⟨(n%18446744073709551616).toNat,by omega⟩
  have hlt:u<18446744073709551616:=by omega
  rw[hu]
  have e1:BitVec.ofInt 64 (u:Int)=BitVec.ofNat 64 u:=BitVec.ofInt_natCast ..
  have e2:BitVec.ofInt 64 (9223372036854775808:Int)=BitVec.ofNat 64 9223372036854775808:=by rw[← BitVec.ofInt_natCast];rfl
  rw[e1,e2,BitVec.toNat_xor,BitVec.toNat_ofNat,BitVec.toNat_ofNat,Nat.mod_eq_of_lt (by omega),Nat.mod_eq_of_lt (by omega),xor_top u hlt]
  omega
theorem Wr.turn {n:Int} {K:Int→Prop} (h:okInt n) (hk:K (n+9223372036854775808)):Wr .u64 ((BitVec.ofInt 64 (n%18446744073709551616) ^^^ BitVec.ofInt 64 9223372036854775808).toNat:Int) K:=by
  rw[xor_turn h]
  exact Wr.u64 (by have:=h.1;omega) (by have:=h.2;omega) hk
def escK:List UInt8→List UInt8
  | []=>[]
  | b::l=>if b=0 then 0::255::escK l else b::escK l
theorem escK_append:∀a b:List UInt8,escK (a++b)=escK a++escK b
  | [],b=>rfl
  | x::a,b=>by
    rw[List.cons_append]
    show (if x=0 then 0::255::escK (a++b) else x::escK (a++b))=(if x=0 then 0::255::escK a else x::escK a)++escK b
    rw[escK_append a b]
    split<;>rfl
theorem escK_len:∀l:List UInt8,(escK l).length≤2*l.length
  | []=>by simp[escK]
  | b::l=>by
    have:=escK_len l
    unfold escK
    split<;>simp only[List.length_cons]<;>omega
def b8 (n:Int):List UInt8:=[by1 (n / 2^56),by1 (n / 2^48),by1 (n / 2^40),by1 (n / 2^32),by1 (n / 2^24),by1 (n / 2^16),by1 (n / 2^8),by1 n]
theorem b8_take (n:Int) {j:Nat} (h:j<8):(b8 n).take (j+1)=(b8 n).take j++[by1 (n / 2^(56 - 8*j))]:=by
  have:j=0∨j=1∨j=2∨j=3∨j=4∨j=5∨j=6∨j=7:=by omega
  rcases this with rfl | rfl | rfl | rfl | rfl | rfl | rfl | rfl
  all_goals first|rfl | (show _=_++[by1 (n / 2^0)];rw[show n / 2^0=n by simp];rfl)
def tagK (k:Int):UInt8:=if k=0 then 5 else if k=1 then 16 else if k=2 then 32 else 48
def kW (v:ValueD):List UInt8:=tagK v.Kind::(if v.Kind=0 then [] else if v.Kind=1 then b8 (v.N+9223372036854775808) else escK v.S++[0,1])
def keyW (l:List ValueD):List UInt8:=l.flatMap kW
theorem kW_len {v:ValueD} (h:vChk v=0):(kW v).length≤35:=by
  obtain⟨_,_,_,h4⟩:=vChk_inv h
  have:=escK_len v.S
  unfold kW
  rw[List.length_cons]
  (repeat' split)
  · simp
  · show 8+1≤35;omega
  · rw[List.length_append];show _+2+1≤_;omega
theorem keyW_len:∀{l:List ValueD},(∀v∈l,vChk v=0)→(keyW l).length≤35*l.length
  | [],_=>by simp[keyW]
  | v::l,h=>by
    unfold keyW
    rw[List.flatMap_cons,List.length_append,List.length_cons]
    have h1:=kW_len (h v (List.mem_cons_self ..))
    have h2:=keyW_len (l:=l) fun x hx=>h x (List.mem_cons_of_mem _ hx)
    unfold keyW at h2
    omega
theorem key_snoc {l:List ValueD} {k:Nat} (h:k<l.length):keyW (l.take (k+1))=keyW (l.take k)++kW l[k]:=by
  unfold keyW
  rw[take_snoc h,List.flatMap_append];simp
def keyR (l:List ValueD):List UInt8:=if rowChk l=0 then keyW l else []
theorem p_key (l:List ValueD) (hl:l.length≤140737488355328) (hN:∀v∈l,okInt v.N):Pure Tryz.prog 48 [slV 3 ValueD.c l] (.tup [pStr (tx (keyR l)),pInt .i64 (rowChk l)]):=by
  have pc:=p_rowchk l hl
  refine pure_of Tryz.func48 (by rfl) rfl (by kernel_rfl) (by rfl) ?_
  unfold keyR
  by_cases h:rowChk l=0
  · obtain⟨h8,hv⟩:=rowChk_ok h
    rw[if_pos h]
    rw[h] at pc ⊢
    ((conv=>whnf);repeat' ((first|(with_reducible first|apply a_|apply b_|apply c_)|((with_reducible first|apply d_|apply e_|apply f_|apply g_);focus first|omega|(simp only[q_]<;>omega))|((with_reducible first|apply i_|apply h_);focus first|omega|(simp only[q_]<;>omega))|((with_reducible apply h_);focus first|decide|kernel_rfl)|refine s_ (by decide) ?_|refine t_ (by decide) ?_|refine r_ pc rfl ?_|with_reducible first|apply l_|apply m_|apply n_|apply o_|refine p_ (fun _=>?_) (fun _=>?_))<;>(conv=>whnf)))
    refine LoopC.mk Nat (fun j=>[(5,.d (.app 60 tByte 1 (byteRows (keyW (l.take j))))),(16,slV 3 ValueD.c l),(17,pInt .i64 l.length),(18,pInt .i64 j)]) (fun j=>[(60,.tail tByte 1)]) [60] (fun j=>j≤l.length) (fun j=>l.length - j) 0 (Nat.zero_le _) ?start ?round
    case start=>exact⟨[],rfl,rfl,⟨⟨rfl,rfl,Nat.zero_lt_one,rfl,rfl⟩,.inl rfl,PLe.int (by simp),.inl rfl,trivial⟩,⟨rfl,Nat.zero_lt_one⟩,trivial⟩
    case round=>
      intro j hj
      by_cases h1:j<l.length
      · have hm:=List.getElem_mem h1
        obtain⟨k1,k2,k3,k4⟩:=vChk_inv (hv _ hm)
        have hN1:=hN _ hm
        have hf:=keyW_len (l:=l.take j) fun v hx=>hv v (List.mem_of_mem_take hx)
        rw[List.length_take] at hf
        have hs:=key_snoc h1
        have hb:=bRows_length (keyW (l.take j))
        have hend:∀t:List UInt8,kW l[j]=t→byteRows (keyW (l.take (j+1)))=byteRows (keyW (l.take j))++byteRows t:=by
          rintro t rfl
          rw[hs,byteRows_append]
        generalize hx:l[j]=x at *
        obtain⟨kd,n,s⟩:=x
        simp only at k1 k2 k3 k4 hN1
        have kk:kd=0∨kd=1∨2≤kd:=by omega
        rcases kk with rfl | rfl | kk
        · ((conv=>whnf);repeat' ((first|(with_reducible first|apply a_|apply b_|apply c_)|((with_reducible first|apply d_|apply e_|apply f_|apply g_);focus first|omega|(simp only[q_]<;>omega))|((with_reducible first|apply i_|apply h_);focus first|omega|(simp only[q_]<;>omega))|((with_reducible apply h_);focus first|decide|kernel_rfl)|refine s_ (by decide) ?_|refine t_ (by decide) ?_|(refine Idx.mapE j rfl h1 hx ?_)|(refine DIdx.mk _ (by dsimp only;decide) rfl ?_)|(refine Need.by 1 rfl (by simp only[List.length_append,List.length_singleton,hb];omega) ?_)|with_reducible first|apply l_|apply m_|apply n_|apply o_|refine p_ (fun _=>?_) (fun _=>?_))<;>(conv=>whnf)))
          exact⟨j+1,by omega,by omega,[(60,28)],rfl,rfl,⟨⟨rfl,rfl,rfl,rfl,by rw[hend [5] rfl];rfl⟩,.inl rfl,.inl rfl,PLe.int (by omega),trivial⟩,⟨rfl,rfl,rfl⟩,trivial⟩
        · have kw:kW ⟨1,n,s⟩=[16]++b8 (n+9223372036854775808):=rfl
          have hlo:=hN1.1
          have hhi:=hN1.2
          ((conv=>whnf);repeat' ((first|(with_reducible first|apply a_|apply b_|apply c_)|((with_reducible first|apply d_|apply e_|apply f_|apply g_);focus first|omega|(simp only[q_]<;>omega))|((with_reducible first|apply i_|apply h_);focus first|omega|(simp only[q_]<;>omega))|((with_reducible apply h_);focus first|decide|kernel_rfl)|refine s_ (by decide) ?_|refine t_ (by decide) ?_|(refine Idx.mapE j rfl h1 hx ?_)|(refine DIdx.mk _ (by dsimp only;decide) rfl ?_)|(refine Need.by 1 rfl (by simp only[List.length_append,List.length_singleton,hb];omega) ?_)|(refine Wr.turn hN1 ?_)|(refine Wr.u64w ?_)|with_reducible first|apply l_|apply m_|apply n_|apply o_|refine p_ (fun _=>?_) (fun _=>?_))<;>(conv=>whnf)))
          refine LoopC.mk Nat (fun i=>[(5,.d (.app 61 tByte 1 (byteRows (keyW (l.take j)++[16]++(b8 (n+9223372036854775808)).take i)))),(8,pInt .i64 (56 - 8*(i:Int))),(9,pInt .u64 (n+9223372036854775808)),(16,slV 3 ValueD.c l),(17,pInt .i64 l.length),(18,pInt .i64 j)]) (fun i=>[(61,.tail tByte 1)]) [61] (fun i=>i≤8) (fun i=>8 - i) 0 (Nat.zero_le _) ?_ ?_
          · exact⟨[(61,28)],rfl,rfl,⟨⟨rfl,rfl,rfl,rfl,by show _=byteRows (_++[]);rw[List.append_nil,byteRows_append];rfl⟩,.inl rfl,.inl rfl,.inl rfl,PLe.int (by simp),.inl rfl,trivial⟩,⟨rfl,rfl,rfl⟩,trivial⟩
          · intro i hi
            have hb2:=bRows_length (keyW (l.take j)++[16]++(b8 (n+9223372036854775808)).take i)
            simp only[List.length_append,List.length_singleton,List.length_take] at hb2
            have hb8:(b8 (n+9223372036854775808)).length=8:=rfl
            by_cases h2:i<8
            · have hes:=b8_take (n+9223372036854775808) h2
              have hsh:(n+9223372036854775808).fdiv (2^min (56 - 8*(i:Int)).toNat 64)=(n+9223372036854775808) / 2^(56 - 8*i):=by
                rw[Int.fdiv_eq_ediv_of_nonneg _ (Int.pow_nonneg (by decide))]
                congr 2
                omega
              ((conv=>whnf);repeat' ((first|(with_reducible first|apply a_|apply b_|apply c_)|((with_reducible first|apply d_|apply e_|apply f_|apply g_);focus first|omega|(simp only[q_]<;>omega))|((with_reducible first|apply i_|apply h_);focus first|omega|(simp only[q_]<;>omega))|((with_reducible apply h_);focus first|decide|kernel_rfl)|refine s_ (by decide) ?_|refine t_ (by decide) ?_|(refine Need.by 1 rfl (by simp only[List.length_append,List.length_singleton,hb2];omega) ?_)|with_reducible first|apply l_|apply m_|apply n_|apply o_|refine p_ (fun _=>?_) (fun _=>?_))<;>(conv=>whnf)))
              refine⟨i+1,by omega,by omega,[(61,49)],rfl,rfl,⟨⟨rfl,rfl,rfl,rfl,?_⟩,PLe.int (by omega),.inl rfl,.inl rfl,.inl rfl,.inl rfl,trivial⟩,⟨rfl,rfl,rfl⟩,trivial⟩
              rw[hes,← hsh]
              simp only[byteRows_append,List.append_assoc];rfl
            · ((conv=>whnf);repeat' ((first|(with_reducible first|apply a_|apply b_|apply c_)|((with_reducible first|apply d_|apply e_|apply f_|apply g_);focus first|omega|(simp only[q_]<;>omega))|((with_reducible first|apply i_|apply h_);focus first|omega|(simp only[q_]<;>omega))|((with_reducible apply h_);focus first|decide|kernel_rfl)|refine s_ (by decide) ?_|refine t_ (by decide) ?_|with_reducible first|apply l_|apply m_|apply n_|apply o_|refine p_ (fun _=>?_) (fun _=>?_))<;>(conv=>whnf)))
              refine⟨j+1,by omega,by omega,[(60,61)],rfl,rfl,⟨⟨rfl,rfl,rfl,rfl,?_⟩,.inl rfl,.inl rfl,PLe.int (by omega),trivial⟩,⟨rfl,rfl,rfl⟩,trivial⟩
              rw[hend _ kw,List.take_of_length_le (l:=b8 _) (by rw[hb8];omega)]
              simp only[byteRows_append,List.append_assoc]
        · have kt:kd=2∨kd=3:=by omega
          have htag:∃tg:UInt8,tagK kd=tg∧((kd=2∧tg=32)∨(kd=3∧tg=48)):=⟨_,rfl,by rcases kt with rfl | rfl<;>simp[tagK]⟩
          obtain⟨tg,ht1,ht2⟩:=htag
          have kw:kW ⟨kd,n,s⟩=[tg]++(escK s++[0,1]):=by
            unfold kW
            rw[if_neg (show ¬kd=0 by omega),if_neg (show ¬kd=1 by omega),ht1];rfl
          have di:∀{K:D→Prop},K (.c (.v (.int .u8 (tg.toNat:Int))))→DIdx [D.c (C.v (.int .u8 5)),D.c (C.v (.int .u8 16)),D.c (C.v (.int .u8 32)),D.c (C.v (.int .u8 48))] kd K:=fun h=>by
            rcases ht2 with ⟨rfl,rfl⟩ | ⟨rfl,rfl⟩
            · exact⟨_,by decide,rfl,h⟩
            · exact⟨_,by decide,rfl,h⟩
          have tz:=tx_size s
          ((conv=>whnf);repeat' ((first|(with_reducible first|apply a_|apply b_|apply c_)|((with_reducible first|apply d_|apply e_|apply f_|apply g_);focus first|omega|(simp only[q_]<;>omega))|((with_reducible first|apply i_|apply h_);focus first|omega|(simp only[q_]<;>omega))|((with_reducible apply h_);focus first|decide|kernel_rfl)|refine s_ (by decide) ?_|refine t_ (by decide) ?_|(refine Idx.mapE j rfl h1 hx ?_)|(refine di ?_)|(refine Need.by 1 rfl (by simp only[List.length_append,List.length_singleton,hb];omega) ?_)|with_reducible first|apply l_|apply m_|apply n_|apply o_|refine p_ (fun _=>?_) (fun _=>?_))<;>(conv=>whnf)))
          all_goals
            refine LoopC.mk Nat (fun i=>[(5,.d (.app 61 tByte 1 (byteRows (keyW (l.take j)++[tg]++escK (s.take i))))),(7,.d (.ptr 7 0)),(10,pInt .i64 i),(16,slV 3 ValueD.c l),(17,pInt .i64 l.length),(18,pInt .i64 j)]) (fun i=>[(61,.tail tByte 1),(7,.box tVal ((ValueD.mk kd n s).c.map D.c))]) [61,7] (fun i=>i≤s.length) (fun i=>s.length - i) 0 (Nat.zero_le _) ?_ ?_
            · exact⟨[(61,28),(7,7)],rfl,rfl,⟨⟨rfl,rfl,rfl,rfl,by show _=byteRows (_++[]);rw[List.append_nil,byteRows_append];rfl⟩,⟨rfl,rfl,rfl⟩,.inl rfl,.inl rfl,PLe.int (by simp),.inl rfl,trivial⟩,⟨rfl,rfl,rfl⟩,⟨rfl,rfl,.inl rfl,.inl rfl,.inl rfl,rfl⟩,trivial⟩
            · intro i hi
              have he:=escK_len (s.take i)
              rw[List.length_take] at he
              have hb2:=bRows_length (keyW (l.take j)++[tg]++escK (s.take i))
              simp only[List.length_append,List.length_singleton] at hb2
              by_cases h2:i<s.length
              · have hes:escK (s.take (i+1))=escK (s.take i)++(if s.getD i 0=0 then [0,255] else [s.getD i 0]):=by
                  rw[take_snoc h2,escK_append,List.getD_eq_getElem?_getD,List.getElem?_eq_getElem h2]
                  show _++(if s[i]=0 then 0::255::[] else s[i]::[])=_
                  rfl
                by_cases hz:s.getD i 0=0
                · rw[if_pos hz] at hes
                  have hz':((s.getD i 0).toNat:Int)=0:=by rw[hz];rfl
                  ((conv=>whnf);repeat' ((first|(with_reducible first|apply a_|apply b_|apply c_)|((with_reducible first|apply d_|apply e_|apply f_|apply g_);focus first|omega|(simp only[q_]<;>omega))|((with_reducible first|apply i_|apply h_);focus first|omega|(simp only[q_]<;>omega))|((with_reducible apply h_);focus first|decide|kernel_rfl)|refine s_ (by decide) ?_|refine t_ (by decide) ?_|(refine SIdx.tx i rfl h2 ?_)|(refine BCase.dt hz' ?_)|(refine Need.by 1 rfl (by simp only[List.length_append,List.length_singleton,hb2];omega) ?_)|with_reducible first|apply l_|apply m_|apply n_|apply o_|refine p_ (fun _=>?_) (fun _=>?_))<;>(conv=>whnf)))
                  refine⟨i+1,by omega,by omega,[(61,71),(7,7)],rfl,rfl,⟨⟨rfl,rfl,rfl,rfl,?_⟩,⟨rfl,rfl,rfl⟩,PLe.int (by omega),.inl rfl,.inl rfl,.inl rfl,trivial⟩,⟨rfl,rfl,rfl⟩,⟨rfl,rfl,.inl rfl,.inl rfl,.inl rfl,rfl⟩,trivial⟩
                  rw[hes,hz']
                  simp only[byteRows_append,List.append_assoc];rfl
                · rw[if_neg hz] at hes
                  have hz':¬((s.getD i 0).toNat:Int)=0:=fun e=>hz (u8_eq.1 e)
                  ((conv=>whnf);repeat' ((first|(with_reducible first|apply a_|apply b_|apply c_)|((with_reducible first|apply d_|apply e_|apply f_|apply g_);focus first|omega|(simp only[q_]<;>omega))|((with_reducible first|apply i_|apply h_);focus first|omega|(simp only[q_]<;>omega))|((with_reducible apply h_);focus first|decide|kernel_rfl)|refine s_ (by decide) ?_|refine t_ (by decide) ?_|(refine SIdx.tx i rfl h2 ?_)|(refine BCase.df hz' ?_)|(refine Need.by 1 rfl (by simp only[List.length_append,List.length_singleton,hb2];omega) ?_)|with_reducible first|apply l_|apply m_|apply n_|apply o_|refine p_ (fun _=>?_) (fun _=>?_))<;>(conv=>whnf)))
                  refine⟨i+1,by omega,by omega,[(61,63),(7,7)],rfl,rfl,⟨⟨rfl,rfl,rfl,rfl,?_⟩,⟨rfl,rfl,rfl⟩,PLe.int (by omega),.inl rfl,.inl rfl,.inl rfl,trivial⟩,⟨rfl,rfl,rfl⟩,⟨rfl,rfl,.inl rfl,.inl rfl,.inl rfl,rfl⟩,trivial⟩
                  rw[hes]
                  simp only[byteRows_append,List.append_assoc];rfl
              · ((conv=>whnf);repeat' ((first|(with_reducible first|apply a_|apply b_|apply c_)|((with_reducible first|apply d_|apply e_|apply f_|apply g_);focus first|omega|(simp only[q_]<;>omega))|((with_reducible first|apply i_|apply h_);focus first|omega|(simp only[q_]<;>omega))|((with_reducible apply h_);focus first|decide|kernel_rfl)|refine s_ (by decide) ?_|refine t_ (by decide) ?_|(refine Need.by 1 rfl (by simp only[List.length_append,List.length_singleton,List.length_cons,List.length_nil,hb2];omega) ?_)|with_reducible first|apply l_|apply m_|apply n_|apply o_|refine p_ (fun _=>?_) (fun _=>?_))<;>(conv=>whnf)))
                refine⟨j+1,by omega,by omega,[(60,74)],rfl,rfl,⟨⟨rfl,rfl,rfl,rfl,?_⟩,.inl rfl,.inl rfl,PLe.int (by omega),trivial⟩,⟨rfl,rfl,rfl⟩,trivial⟩
                rw[hend _ kw,List.take_of_length_le (l:=s) (by omega)]
                simp only[byteRows_append,List.append_assoc];rfl
      · ((conv=>whnf);repeat' ((first|(with_reducible first|apply a_|apply b_|apply c_)|((with_reducible first|apply d_|apply e_|apply f_|apply g_);focus first|omega|(simp only[q_]<;>omega))|((with_reducible first|apply i_|apply h_);focus first|omega|(simp only[q_]<;>omega))|((with_reducible apply h_);focus first|decide|kernel_rfl)|refine s_ (by decide) ?_|refine t_ (by decide) ?_|with_reducible first|apply l_|apply m_|apply n_|apply o_|refine p_ (fun _=>?_) (fun _=>?_))<;>(conv=>whnf)))
        refine Bytes.mk' ?_
        ((conv=>whnf);repeat' ((first|(with_reducible first|apply a_|apply b_|apply c_)|((with_reducible first|apply d_|apply e_|apply f_|apply g_);focus first|omega|(simp only[q_]<;>omega))|((with_reducible first|apply i_|apply h_);focus first|omega|(simp only[q_]<;>omega))|((with_reducible apply h_);focus first|decide|kernel_rfl)|refine s_ (by decide) ?_|refine t_ (by decide) ?_|with_reducible first|apply l_|apply m_|apply n_|apply o_|refine p_ (fun _=>?_) (fun _=>?_))<;>(conv=>whnf)))
        refine Ret.mk ?_
        rw[List.take_of_length_le (by omega)];rfl
  · rw[if_neg h]
    ((conv=>whnf);repeat' ((first|(with_reducible first|apply a_|apply b_|apply c_)|((with_reducible first|apply d_|apply e_|apply f_|apply g_);focus first|omega|(simp only[q_]<;>omega))|((with_reducible first|apply i_|apply h_);focus first|omega|(simp only[q_]<;>omega))|((with_reducible apply h_);focus first|decide|kernel_rfl)|refine s_ (by decide) ?_|refine t_ (by decide) ?_|refine r_ pc rfl ?_|with_reducible first|apply l_|apply m_|apply n_|apply o_|refine p_ (fun _=>?_) (fun _=>?_))<;>(conv=>whnf)))
    exact Ret.mk rfl
end
section
open Go.RowKit K
set_option maxRecDepth 100000
set_option maxRecDepth 100000
def putS (seen:List (List UInt8)) (s:List UInt8):List (List UInt8):=if s∈seen then seen else seen++[s]
theorem s_distinct1 (row:RowT) (hr:row.length≤1000) (hN:∀v∈row,okInt v.N) (seen:List (List UInt8)) (T:Nat):CallS Tryz.prog 47 [slV 3 ValueD.c row,.d (.ptr FK 0)] [(FK,.box T [.mp FK1])] [(FK1,.mp (nmap seen))] (.tup [pBool (!decide (keyR row∈seen)),pInt .i64 (rowChk row)]) [(FK1,.mp (nmap (putS seen (keyR row))))]:=by
  have pk:=p_key row (by omega) hN
  refine callS_of Tryz.func47 (by rfl) rfl (by kernel_rfl) (by rfl) [FK,FK1] rfl ?_
  ((conv=>whnf);repeat' ((first|(with_reducible first|apply a_|apply b_|apply c_)|((with_reducible first|apply d_|apply e_|apply f_|apply g_);focus first|omega|(simp only[q_]<;>omega))|((with_reducible first|apply i_|apply h_);focus first|omega|(simp only[q_]<;>omega))|((with_reducible apply h_);focus first|decide|kernel_rfl)|refine s_ (by decide) ?_|refine t_ (by decide) ?_|refine r_ pk rfl ?_|(refine Need.mk ⟨rfl,nmap_plain seen⟩ ?_)|with_reducible first|apply l_|apply m_|apply n_|apply o_|refine p_ (fun _=>?_) (fun _=>?_))<;>(conv=>whnf)))
  refine⟨fun v hv=>?_,fun hv=>?_⟩
  · rw[mpGet_nmap] at hv
    by_cases h:keyR row∈seen
    · rw[if_pos h] at hv
      cases hv
      ((conv=>whnf);repeat' ((first|(with_reducible first|apply a_|apply b_|apply c_)|((with_reducible first|apply d_|apply e_|apply f_|apply g_);focus first|omega|(simp only[q_]<;>omega))|((with_reducible first|apply i_|apply h_);focus first|omega|(simp only[q_]<;>omega))|((with_reducible apply h_);focus first|decide|kernel_rfl)|refine s_ (by decide) ?_|refine t_ (by decide) ?_|with_reducible first|apply l_|apply m_|apply n_|apply o_|refine p_ (fun _=>?_) (fun _=>?_))<;>(conv=>whnf)))
      refine RetS.mk [(FK,FK),(FK1,FK1)] [FK,FK1] rfl rfl ?_ ?_
      · exact⟨PLe.bool (by simp[h]),.inl rfl,rfl⟩
      · refine⟨?_,⟨rfl,by unfold putS;rw[if_pos h];show mpPut _ _ _=_;rw[mpPut_nmap,if_pos h]⟩,trivial⟩<;>repeat' (first|exact rfl|exact trivial|exact Or.inl rfl|refine And.intro ?_ ?_)
    · rw[if_neg h] at hv;cases hv
  · rw[mpGet_nmap] at hv
    by_cases h:keyR row∈seen
    · rw[if_pos h] at hv;cases hv
    · ((conv=>whnf);repeat' ((first|(with_reducible first|apply a_|apply b_|apply c_)|((with_reducible first|apply d_|apply e_|apply f_|apply g_);focus first|omega|(simp only[q_]<;>omega))|((with_reducible first|apply i_|apply h_);focus first|omega|(simp only[q_]<;>omega))|((with_reducible apply h_);focus first|decide|kernel_rfl)|refine s_ (by decide) ?_|refine t_ (by decide) ?_|with_reducible first|apply l_|apply m_|apply n_|apply o_|refine p_ (fun _=>?_) (fun _=>?_))<;>(conv=>whnf)))
      refine RetS.mk [(FK,FK),(FK1,FK1)] [FK,FK1] rfl rfl ?_ ?_
      · exact⟨PLe.bool (by simp[h]),.inl rfl,rfl⟩
      · refine⟨?_,⟨rfl,by unfold putS;rw[if_neg h];show mpPut _ _ _=_;rw[mpPut_nmap,if_neg h]⟩,trivial⟩<;>repeat' (first|exact rfl|exact trivial|exact Or.inl rfl|refine And.intro ?_ ?_)
def distK:List (List UInt8)→List RowT→List RowT
  | _,[]=>[]
  | seen,r::l=>if keyR r∈seen then distK seen l else r::distK (seen++[keyR r]) l
def seenK (seen:List (List UInt8)) (l:List RowT):List (List UInt8):=l.foldl (fun s r=>putS s (keyR r)) seen
theorem seenK_snoc {seen:List (List UInt8)} {l:List RowT} {k:Nat} (h:k<l.length):seenK seen (l.take (k+1))=putS (seenK seen (l.take k)) (keyR l[k]):=by
  unfold seenK
  rw[take_snoc h,List.foldl_append];rfl
theorem distK_snoc:∀(l:List RowT) (seen:List (List UInt8)) (r:RowT),distK seen (l++[r])=distK seen l++(if keyR r∈seenK seen l then [] else [r])
  | [],seen,r=>by
    show distK seen [r]=_
    rw[distK,distK]
    show _=[]++if keyR r∈seen then [] else [r]
    split<;>simp[distK]
  | x::l,seen,r=>by
    rw[List.cons_append,distK,distK]
    have e:seenK seen (x::l)=seenK (putS seen (keyR x)) l:=rfl
    rw[e]
    unfold putS
    by_cases h:keyR x∈seen
    · rw[if_pos h,if_pos h,if_pos h,distK_snoc l seen r]
    · rw[if_neg h,if_neg h,if_neg h,distK_snoc l _ r];rfl
theorem s_kept_dist (l:List RowT) (hl:l.length≤1000) (hr:∀r∈l,r.length≤1000∧(∀v∈r,okInt v.N)∧rowChk r=0) (T:Nat):CallS Tryz.prog 37 [rwsV l,.d (.clo 47 [] [.ptr FK 0])] [(FK,.box T [.mp FK1])] [(FK1,.mp (nmap []))] (.tup [rwsV (distK [] l),pInt .i64 0]) [(FK1,.mp (nmap (seenK [] l)))]:=by
  refine callS_of Tryz.func37 (by rfl) rfl (by kernel_rfl) (by rfl) [FK,FK1] rfl ?_
  ((conv=>whnf);repeat' ((first|(with_reducible first|apply a_|apply b_|apply c_)|((with_reducible first|apply d_|apply e_|apply f_|apply g_);focus first|omega|(simp only[q_]<;>omega))|((with_reducible first|apply i_|apply h_);focus first|omega|(simp only[q_]<;>omega))|((with_reducible apply h_);focus first|decide|kernel_rfl)|refine s_ (by decide) ?_|refine t_ (by decide) ?_|with_reducible first|apply l_|apply m_|apply n_|apply o_|refine p_ (fun _=>?_) (fun _=>?_))<;>(conv=>whnf)))
  refine LoopC.mk Nat (fun k=>[(1,.d (.clo 47 [] [.ptr FK 0])),(6,.d (.app 60 31 1 ((distK [] (l.take k)).map rowC))),(11,rwsV l),(12,pInt .i64 l.length),(13,pInt .i64 (k:Int))]) (fun k=>[(FK,.box T [.mp FK1]),(FK1,.mp (nmap (seenK [] (l.take k)))),(60,.tail 31 1)]) [FK,FK1,60] (fun k=>k≤l.length∧(distK [] (l.take k)).length≤k) (fun k=>l.length - k) 0 ⟨Nat.zero_le _,by rw[List.take_zero];exact Nat.le_refl _⟩ ?start ?round
  case start=>
    refine⟨[(FK,FK),(FK1,FK1)],rfl,rfl,?_,?_⟩<;>repeat' (first|exact rfl|exact trivial|exact Or.inl rfl|exact Nat.zero_lt_succ _|refine And.intro ?_ ?_)
    all_goals exact PLe.int (by simp)
  case round=>
    rintro k ⟨hk,hdl⟩
    have hk:k≤l.length:=hk
    have hdl:(distK [] (l.take k)).length≤k:=hdl
    by_cases q:k<l.length
    · obtain⟨h1,h2,h3⟩:=hr _ (List.getElem_mem q)
      have pf:=s_distinct1 l[k] h1 h2 (seenK [] (l.take k)) T
      have pc:=p_cloneV l[k] (by omega)
      rw[h3] at pf
      have hs:=seenK_snoc (seen:=[]) q
      have hd:distK [] (l.take (k+1))=distK [] (l.take k)++(if keyR l[k]∈seenK [] (l.take k) then [] else [l[k]]):=by rw[take_snoc q];exact distK_snoc _ _ _
      by_cases h:keyR l[k]∈seenK [] (l.take k)
      · rw[if_pos h,List.append_nil] at hd
        have hb:(!decide (keyR l[k]∈seenK [] (l.take k)))=false:=by simp[h]
        rw[hb] at pf
        ((conv=>whnf);repeat' ((first|(with_reducible first|apply a_|apply b_|apply c_)|((with_reducible first|apply d_|apply e_|apply f_|apply g_);focus first|omega|(simp only[q_]<;>omega))|((with_reducible first|apply i_|apply h_);focus first|omega|(simp only[q_]<;>omega))|((with_reducible apply h_);focus first|decide|kernel_rfl)|refine s_ (by decide) ?_|refine t_ (by decide) ?_|(refine Idx.mapI (f:=rowC) k rfl q ?_)|(refine CallP.ret [(FK,FK),(FK1,FK1)] _ _ _ _ _ _ _ pf rfl rfl rfl rfl ⟨rfl,rfl,trivial⟩ ?_)|refine r_ pc rfl ?_|(refine Need.by 24 rfl (by simp only[List.length_map,List.length_singleton];omega) ?_)|with_reducible first|apply l_|apply m_|apply n_|apply o_|refine p_ (fun _=>?_) (fun _=>?_))<;>(conv=>whnf)))
        all_goals first
          | (exfalso;omega)
          | skip
        refine⟨k+1,⟨by show k+1≤_;omega,by rw[hd];omega⟩,by show l.length - (k+1)<l.length - k;omega,[(FK,FK),(FK1,FK1),(60,60)],rfl,rfl,?_,?_⟩<;>repeat' (first|exact rfl|exact trivial|exact Or.inl rfl|exact (show _=(distK [] (l.take (k+1))).map rowC by rw[hd]) | exact (show _=nmap (seenK [] (l.take (k+1))) by rw[hs]) | refine And.intro ?_ ?_)
        all_goals first|exact PLe.int (by simp) | exact PLe.int (by omega)
      · rw[if_neg h] at hd
        have hb:(!decide (keyR l[k]∈seenK [] (l.take k)))=true:=by simp[h]
        rw[hb] at pf
        ((conv=>whnf);repeat' ((first|(with_reducible first|apply a_|apply b_|apply c_)|((with_reducible first|apply d_|apply e_|apply f_|apply g_);focus first|omega|(simp only[q_]<;>omega))|((with_reducible first|apply i_|apply h_);focus first|omega|(simp only[q_]<;>omega))|((with_reducible apply h_);focus first|decide|kernel_rfl)|refine s_ (by decide) ?_|refine t_ (by decide) ?_|(refine Idx.mapI (f:=rowC) k rfl q ?_)|(refine CallP.ret [(FK,FK),(FK1,FK1)] _ _ _ _ _ _ _ pf rfl rfl rfl rfl ⟨rfl,rfl,trivial⟩ ?_)|refine r_ pc rfl ?_|(refine Need.by 24 rfl (by simp only[List.length_map,List.length_singleton];omega) ?_)|with_reducible first|apply l_|apply m_|apply n_|apply o_|refine p_ (fun _=>?_) (fun _=>?_))<;>(conv=>whnf)))
        all_goals first
          | (exfalso;omega)
          | skip
        refine⟨k+1,⟨by show k+1≤_;omega,by rw[hd,List.length_append,List.length_singleton];omega⟩,by show l.length - (k+1)<l.length - k;omega,[(FK,FK),(FK1,FK1),(60,31)],rfl,rfl,?_,?_⟩<;>repeat' (first|exact rfl|exact trivial|exact Or.inl rfl|exact (show _=(distK [] (l.take (k+1))).map rowC by rw[hd,List.map_append];rfl) | exact (show _=nmap (seenK [] (l.take (k+1))) by rw[hs]) | refine And.intro ?_ ?_)
        all_goals first|exact PLe.int (by simp) | exact PLe.int (by omega)
    · have e1:l.take k=l:=List.take_of_length_le (by omega)
      rw[e1]
      ((conv=>whnf);repeat' ((first|(with_reducible first|apply a_|apply b_|apply c_)|((with_reducible first|apply d_|apply e_|apply f_|apply g_);focus first|omega|(simp only[q_]<;>omega))|((with_reducible first|apply i_|apply h_);focus first|omega|(simp only[q_]<;>omega))|((with_reducible apply h_);focus first|decide|kernel_rfl)|refine s_ (by decide) ?_|refine t_ (by decide) ?_|with_reducible first|apply l_|apply m_|apply n_|apply o_|refine p_ (fun _=>?_) (fun _=>?_))<;>(conv=>whnf)))
      all_goals first
        | (exfalso;omega)
        | (refine RetS.mk [(FK,FK),(FK1,FK1)] [FK,FK1] rfl rfl ?_ ?_<;>repeat' (first|exact rfl|exact trivial|exact Or.inl rfl|exact Or.inr ⟨⟨1,rfl⟩,.inl rfl⟩ | refine And.intro ?_ ?_))
def distF (l:List RowT):List RowT×Int:=if rowsChk l≠0 then ([],rowsChk l) else (distK [] l,0)
theorem p_Distinct (l:List RowT) (hN:∀r∈l,∀v∈r,okInt v.N):Pure Tryz.prog 28 [rwsV l] (.tup [rwsV (distF l).1,pInt .i64 (distF l).2]):=by
  have pc:=p_bagcheck l
  refine pure_of Tryz.func28 (by rfl) rfl (by kernel_rfl) (by rfl) ?_
  unfold distF
  by_cases h1:rowsChk l=0
  · rw[if_neg (not_not_intro h1)]
    rw[h1] at pc
    obtain⟨h40,h8⟩:=rowsChk_ok.1 h1
    have pk (T:Nat):=s_kept_dist l (by omega) (fun r hr=>⟨by have:=(h8 r hr).1;omega,hN r hr,by unfold rowChk;rw[if_neg (by have:=(h8 r hr).1;omega)];exact (h8 r hr).2.2⟩) T
    ((conv=>whnf);repeat' ((first|(with_reducible first|apply a_|apply b_|apply c_)|((with_reducible first|apply d_|apply e_|apply f_|apply g_);focus first|omega|(simp only[q_]<;>omega))|((with_reducible first|apply i_|apply h_);focus first|omega|(simp only[q_]<;>omega))|((with_reducible apply h_);focus first|decide|kernel_rfl)|refine s_ (by decide) ?_|refine t_ (by decide) ?_|refine r_ pc rfl ?_|(refine CallP.ret [(FK,5),(FK1,11)] _ _ _ _ _ _ _ (pk _) rfl rfl rfl rfl ⟨rfl,rfl,trivial⟩ ?_)|with_reducible first|apply l_|apply m_|apply n_|apply o_|refine p_ (fun _=>?_) (fun _=>?_))<;>(conv=>whnf)))
    all_goals first|exact Ret.eq rfl | (exfalso;omega) | skip
  · rw[if_pos h1]
    ((conv=>whnf);repeat' ((first|(with_reducible first|apply a_|apply b_|apply c_)|((with_reducible first|apply d_|apply e_|apply f_|apply g_);focus first|omega|(simp only[q_]<;>omega))|((with_reducible first|apply i_|apply h_);focus first|omega|(simp only[q_]<;>omega))|((with_reducible apply h_);focus first|decide|kernel_rfl)|refine s_ (by decide) ?_|refine t_ (by decide) ?_|refine r_ pc rfl ?_|with_reducible first|apply l_|apply m_|apply n_|apply o_|refine p_ (fun _=>?_) (fun _=>?_))<;>(conv=>whnf)))
    all_goals first|exact Ret.le ⟨.inr ⟨⟨1,rfl⟩,.inl rfl⟩,.inl rfl,rfl⟩ | (exfalso;omega)
end
section
open Go.RowKit K
set_option maxRecDepth 100000
def ek (x:List NodeD):List C:=[.sl 6 (x.map NodeD.c)]
end
section
open Go.RowKit K
set_option maxRecDepth 100000
set_option maxRecDepth 100000
def mapX {α β:Type} (f:α→Except Int β):List α→Except Int (List β)
  | []=>.ok []
  | a::l=>match f a with
    | .error x=>.error x
    | .ok b=>match mapX f l with
      | .error x=>.error x
      | .ok bs=>.ok (b::bs)
theorem mapX_app {α β:Type} {f:α→Except Int β}:∀(l m:List α),mapX f (l++m)=match mapX f l with
    | .error x=>.error x
    | .ok bs=>match mapX f m with
      | .error x=>.error x
      | .ok cs=>.ok (bs++cs)
  | [],m=>by
    rw[List.nil_append,mapX]
    cases mapX f m<;>rfl
  | a::l,m=>by
    rw[List.cons_append,mapX,mapX,mapX_app l m]
    cases f a with
    | error x=>rfl
    | ok b=>
      cases mapX f l with
      | error x=>rfl
      | ok bs=>
        cases mapX f m with
        | error x=>rfl
        | ok cs=>rfl
theorem mapX_len {α β:Type} {f:α→Except Int β}:∀{l:List α} {bs:List β},mapX f l=.ok bs→bs.length=l.length
  | [],bs,h=>by rw[mapX] at h;cases h;rfl
  | a::l,bs,h=>by
    rw[mapX] at h
    split at h
    · cases h
    · split at h
      · cases h
      · rename_i cs hc;cases h;rw[List.length_cons,List.length_cons,mapX_len hc]
theorem mapX_step {α β:Type} {f:α→Except Int β} {l:List α} {k:Nat} {bs:List β} {b:β} (h:k<l.length) (hp:mapX f (l.take k)=.ok bs) (hb:f l[k]=.ok b):mapX f (l.take (k+1))=.ok (bs++[b]):=by
  rw[take_snoc h,mapX_app,hp,mapX,hb,mapX]
theorem mapX_stop {α β:Type} {f:α→Except Int β} {l:List α} {k:Nat} {bs:List β} {x:Int} (h:k<l.length) (hp:mapX f (l.take k)=.ok bs) (hb:f l[k]=.error x):mapX f l=.error x:=by
  conv=>lhs;rw[← List.take_append_drop k l]
  rw[mapX_app,hp,List.drop_eq_getElem_cons h,mapX,hb]
noncomputable def evP (e:List NodeD) (cols:List (List UInt8)) (row:RowT):ValueD×Int:=match evalF e cols row with
  | .ok v=>(v,0)
  | .error x=>(noV,x)
theorem evP_eq (e:List NodeD) (cols:List (List UInt8)) (row:RowT):eVal (evalF e cols row)=.tup [vV (evP e cols row).1,pInt .i64 (evP e cols row).2]:=by
  unfold evP
  cases evalF e cols row<;>rfl
def pairX {α:Type} (p:α×Int):Except Int α:=if p.2=0 then .ok p.1 else .error p.2
noncomputable def projR (list:List (List NodeD)) (cols:List (List UInt8)) (row:RowT):Except Int RowT:=mapX (fun e=>pairX (evP e cols row)) list
def firstX {α:Type} (f:α→Int):List α→Int
  | []=>0
  | a::l=>if f a≠0 then f a else firstX f l
theorem firstX_skip {α:Type} {f:α→Int}:∀(l:List α) (k:Nat),(∀a∈l.take k,f a=0)→firstX f l=firstX f (l.drop k)
  | l,0,_=>by rw[List.drop_zero]
  | [],k+1,_=>rfl
  | a::l,k+1,h=>by
    rw[firstX,if_neg (not_not_intro (h a (by rw[List.take_succ_cons];exact List.mem_cons_self))),List.drop_succ_cons]
    exact firstX_skip l k fun x hx=>h x (by rw[List.take_succ_cons];exact List.mem_cons_of_mem _ hx)
theorem firstX_ok {α:Type} {f:α→Int} {l:List α}:firstX f l=0↔∀a∈l,f a=0:=by
  induction l with
  | nil=>exact⟨fun _ a h=>absurd h List.not_mem_nil,fun _=>rfl⟩
  | cons a l ih=>
    rw[firstX]
    constructor
    · intro h
      split at h
      · rename_i q;exact absurd h q
      · rename_i q
        intro x hx
        rcases List.mem_cons.1 hx with rfl | hx
        · exact Decidable.of_not_not q
        · exact ih.1 h x hx
    · intro h
      rw[if_neg (not_not_intro (h a List.mem_cons_self))]
      exact ih.2 fun x hx=>h x (List.mem_cons_of_mem _ hx)
theorem firstX_at {α:Type} {f:α→Int} {l:List α} {k:Nat} (hk:k<l.length) (h:∀a∈l.take k,f a=0) (hx:f l[k]≠0):firstX f l=f l[k]:=by
  rw[firstX_skip l k h,List.drop_eq_getElem_cons hk,firstX,if_pos hx]
noncomputable def projF (l:List RowT) (cols:List (List UInt8)) (list:List (List NodeD)):List RowT×Int:=
  if rowsChk l≠0 then ([],rowsChk l) else if 8<list.length then ([],2) else if firstX checkF list≠0 then ([],firstX checkF list) else
  match mapX (projR list cols) l with
  | .error x=>([],x)
  | .ok m=>(m,0)
abbrev lstV (list:List (List NodeD)):PV:=.d (.c (.sl 1 (list.map ek)))
theorem p_Project (l:List RowT) (hv:∀r∈l,∀v∈r,WholeP.In64 v.N) (cols:List (List UInt8)) (list:List (List NodeD)) (hn:∀e∈list,∀n∈e,hNode n):Pure Tryz.prog 30 [rwsV l,slV 1 eText cols,lstV list] (.tup [rwsV (projF l cols list).1,pInt .i64 (projF l cols list).2]):=by
  have pc:=p_bagcheck l
  have hml:(list.map ek).length=list.length:=List.length_map _
  refine pure_of Tryz.func30 (by rfl) rfl (by kernel_rfl) (by rfl) ?_
  unfold projF
  by_cases h1:rowsChk l=0
  · rw[if_neg (not_not_intro h1)]
    rw[h1] at pc
    obtain⟨h40,h8⟩:=rowsChk_ok.1 h1
    by_cases h2:8<list.length
    · rw[if_pos h2]
      ((conv=>whnf);repeat' ((first|(with_reducible first|apply a_|apply b_|apply c_)|((with_reducible first|apply d_|apply e_|apply f_|apply g_);focus first|omega|(simp only[q_]<;>omega))|((with_reducible first|apply i_|apply h_);focus first|omega|(simp only[q_]<;>omega))|((with_reducible apply h_);focus first|decide|kernel_rfl)|refine s_ (by decide) ?_|refine t_ (by decide) ?_|refine r_ pc rfl ?_|with_reducible first|apply l_|apply m_|apply n_|apply o_|refine p_ (fun _=>?_) (fun _=>?_))<;>(conv=>whnf)))
      all_goals first|exact Ret.le ⟨.inr ⟨⟨1,rfl⟩,.inl rfl⟩,.inl rfl,rfl⟩ | (exfalso;omega)
    · rw[if_neg h2]
      ((conv=>whnf);repeat' ((first|(with_reducible first|apply a_|apply b_|apply c_)|((with_reducible first|apply d_|apply e_|apply f_|apply g_);focus first|omega|(simp only[q_]<;>omega))|((with_reducible first|apply i_|apply h_);focus first|omega|(simp only[q_]<;>omega))|((with_reducible apply h_);focus first|decide|kernel_rfl)|refine s_ (by decide) ?_|refine t_ (by decide) ?_|refine r_ pc rfl ?_|with_reducible first|apply l_|apply m_|apply n_|apply o_|refine p_ (fun _=>?_) (fun _=>?_))<;>(conv=>whnf)))
      refine LoopC.mk Nat (fun k=>[(0,rwsV l),(1,slV 1 eText cols),(2,lstV list),(28,lstV list),(29,pInt .i64 list.length),(30,pInt .i64 (k:Int))]) (fun _=>[]) [] (fun k=>k≤list.length∧∀a∈list.take k,checkF a=0) (fun k=>list.length - k) 0 ⟨Nat.zero_le _,by simp⟩ ?start ?round
      case start=>exact⟨[],rfl,rfl,⟨.inl rfl,.inl rfl,.inl rfl,.inl rfl,PLe.int (by simp),.inl rfl,trivial⟩,trivial⟩
      case round=>
        rintro k ⟨hk,hz⟩
        have hk:k≤list.length:=hk
        have hz:∀a∈list.take k,checkF a=0:=hz
        by_cases q:k<list.length
        · have pe:=p_echeck list[k] fun n h=>(hn _ (List.getElem_mem q) n h).1
          by_cases hx:checkF list[k]=0
          · rw[hx] at pe
            ((conv=>whnf);repeat' ((first|(with_reducible first|apply a_|apply b_|apply c_)|((with_reducible first|apply d_|apply e_|apply f_|apply g_);focus first|omega|(simp only[q_]<;>omega))|((with_reducible first|apply i_|apply h_);focus first|omega|(simp only[q_]<;>omega))|((with_reducible apply h_);focus first|decide|kernel_rfl)|refine s_ (by decide) ?_|refine t_ (by decide) ?_|(refine Idx.mapI (f:=ek) k rfl q ?_)|refine r_ pe rfl ?_|with_reducible first|apply l_|apply m_|apply n_|apply o_|refine p_ (fun _=>?_) (fun _=>?_))<;>(conv=>whnf)))
            all_goals first
              | (exfalso;omega)
              | skip
            refine⟨k+1,⟨by show k+1≤_;omega,fun a ha=>?_⟩,by show list.length - (k+1)<list.length - k;omega,[],rfl,rfl,⟨.inl rfl,.inl rfl,.inl rfl,.inl rfl,PLe.int (by simp),PLe.int (by omega),trivial⟩,trivial⟩
            rw[take_snoc q,List.mem_append,List.mem_singleton] at ha
            rcases ha with ha | rfl
            · exact hz a ha
            · exact hx
          · rw[if_pos (by rw[firstX_at q hz hx];exact hx),firstX_at q hz hx]
            ((conv=>whnf);repeat' ((first|(with_reducible first|apply a_|apply b_|apply c_)|((with_reducible first|apply d_|apply e_|apply f_|apply g_);focus first|omega|(simp only[q_]<;>omega))|((with_reducible first|apply i_|apply h_);focus first|omega|(simp only[q_]<;>omega))|((with_reducible apply h_);focus first|decide|kernel_rfl)|refine s_ (by decide) ?_|refine t_ (by decide) ?_|(refine Idx.mapI (f:=ek) k rfl q ?_)|refine r_ pe rfl ?_|with_reducible first|apply l_|apply m_|apply n_|apply o_|refine p_ (fun _=>?_) (fun _=>?_))<;>(conv=>whnf)))
            all_goals first|exact Ret.le ⟨.inr ⟨⟨1,rfl⟩,.inl rfl⟩,.inl rfl,rfl⟩ | (exfalso;omega)
        · have e1:list.take k=list:=List.take_of_length_le (by omega)
          rw[e1] at hz
          rw[if_neg (not_not_intro (firstX_ok.2 hz))]
          ((conv=>whnf);repeat' ((first|(with_reducible first|apply a_|apply b_|apply c_)|((with_reducible first|apply d_|apply e_|apply f_|apply g_);focus first|omega|(simp only[q_]<;>omega))|((with_reducible first|apply i_|apply h_);focus first|omega|(simp only[q_]<;>omega))|((with_reducible apply h_);focus first|decide|kernel_rfl)|refine s_ (by decide) ?_|refine t_ (by decide) ?_|with_reducible first|apply l_|apply m_|apply n_|apply o_|refine p_ (fun _=>?_) (fun _=>?_))<;>(conv=>whnf)))
          refine LoopC.mk (Nat×List RowT) (fun s=>[(1,slV 1 eText cols),(2,lstV list),(12,.d (.app 60 31 1 (s.2.map rowC))),(40,rwsV l),(41,pInt .i64 l.length),(42,pInt .i64 (s.1:Int))]) (fun _=>[(60,.tail 31 1)]) [60] (fun s=>s.1≤l.length∧mapX (projR list cols) (l.take s.1)=.ok s.2) (fun s=>l.length - s.1) (0,[]) ⟨Nat.zero_le _,rfl⟩ ?start2 ?round2
          case start2=>exact⟨[],rfl,rfl,⟨.inl rfl,.inl rfl,⟨rfl,rfl,Nat.zero_lt_succ _,rfl,rfl⟩,.inl rfl,PLe.int (by simp),.inl rfl,trivial⟩,⟨rfl,Nat.zero_lt_succ _⟩,trivial⟩
          case round2=>
            rintro⟨i,m⟩ ⟨hi,hm⟩
            have hi:i≤l.length:=hi
            have hm:mapX (projR list cols) (l.take i)=.ok m:=hm
            have hmlen:m.length=i:=by rw[mapX_len hm,List.length_take];omega
            by_cases qi:i<l.length
            · ((conv=>whnf);repeat' ((first|(with_reducible first|apply a_|apply b_|apply c_)|((with_reducible first|apply d_|apply e_|apply f_|apply g_);focus first|omega|(simp only[q_]<;>omega))|((with_reducible first|apply i_|apply h_);focus first|omega|(simp only[q_]<;>omega))|((with_reducible apply h_);focus first|decide|kernel_rfl)|refine s_ (by decide) ?_|refine t_ (by decide) ?_|(refine Idx.mapI (f:=rowC) i rfl qi ?_)|with_reducible first|apply l_|apply m_|apply n_|apply o_|refine p_ (fun _=>?_) (fun _=>?_))<;>(conv=>whnf)))
              refine LoopC.mk (Nat×RowT) (fun s=>[(1,slV 1 eText cols),(2,lstV list),(12,.d (.app 60 31 1 (m.map rowC))),(14,slV 3 ValueD.c l[i]),(15,.d (.app 61 49 3 (s.2.map ValueD.c))),(40,rwsV l),(41,pInt .i64 l.length),(42,pInt .i64 (i:Int)),(46,lstV list),(47,pInt .i64 list.length),(48,pInt .i64 (s.1:Int))]) (fun _=>[(60,.tail 31 1),(61,.tail 49 3)]) [60,61] (fun s=>s.1≤list.length∧mapX (fun e=>pairX (evP e cols l[i])) (list.take s.1)=.ok s.2) (fun s=>list.length - s.1) (0,[]) ⟨Nat.zero_le _,rfl⟩ ?start3 ?round3
              case start3=>exact⟨[(60,60)],rfl,rfl,⟨.inl rfl,.inl rfl,⟨rfl,rfl,rfl,rfl,rfl⟩,.inl rfl,⟨rfl,rfl,Nat.zero_lt_succ _,rfl,rfl⟩,.inl rfl,.inl rfl,.inl rfl,.inl rfl,PLe.int (by simp),.inl rfl,trivial⟩,⟨rfl,rfl,rfl⟩,⟨rfl,Nat.zero_lt_succ _⟩,trivial⟩
              case round3=>
                rintro⟨j,r⟩ ⟨hj,hr⟩
                have hj:j≤list.length:=hj
                have hr:mapX (fun e=>pairX (evP e cols l[i])) (list.take j)=.ok r:=hr
                have hrlen:r.length=j:=by rw[mapX_len hr,List.length_take];omega
                by_cases qj:j<list.length
                · have hmi:=List.getElem_mem qi
                  have pv:=p_eval list[j] (hn _ (List.getElem_mem qj)) cols l[i] (by have:=(h8 _ hmi).1;omega) (hv _ hmi)
                  rw[evP_eq] at pv
                  by_cases hx:(evP list[j] cols l[i]).2=0
                  · rw[hx] at pv
                    have hs:=mapX_step (f:=fun e=>pairX (evP e cols l[i])) qj hr (show pairX (evP list[j] cols l[i])=.ok _ from if_pos hx)
                    ((conv=>whnf);repeat' ((first|(with_reducible first|apply a_|apply b_|apply c_)|((with_reducible first|apply d_|apply e_|apply f_|apply g_);focus first|omega|(simp only[q_]<;>omega))|((with_reducible first|apply i_|apply h_);focus first|omega|(simp only[q_]<;>omega))|((with_reducible apply h_);focus first|decide|kernel_rfl)|refine s_ (by decide) ?_|refine t_ (by decide) ?_|(refine Idx.mapI (f:=ek) j rfl qj ?_)|refine r_ pv rfl ?_|(refine Need.by 32 rfl (by simp only[List.length_map,List.length_singleton];omega) ?_)|with_reducible first|apply l_|apply m_|apply n_|apply o_|refine p_ (fun _=>?_) (fun _=>?_))<;>(conv=>whnf)))
                    all_goals first
                      | (exfalso;omega)
                      | skip
                    refine⟨(j+1,r++[(evP list[j] cols l[i]).1]),⟨by show j+1≤_;omega,hs⟩,by show list.length - (j+1)<list.length - j;omega,[(60,60),(61,65)],rfl,rfl,⟨.inl rfl,.inl rfl,⟨rfl,rfl,rfl,rfl,rfl⟩,.inl rfl,⟨rfl,rfl,rfl,rfl,(show _=(r++[(evP list[j] cols l[i]).1]).map ValueD.c by rw[List.map_append];rfl)⟩,.inl rfl,.inl rfl,.inl rfl,.inl rfl,PLe.int (by simp),PLe.int rfl,trivial⟩,⟨rfl,rfl,rfl⟩,⟨rfl,rfl,rfl⟩,trivial⟩
                  · have hs:=mapX_stop (f:=fun e=>pairX (evP e cols l[i])) qj hr (show pairX (evP list[j] cols l[i])=.error _ from if_neg hx)
                    have hs2:=mapX_stop (f:=projR list cols) qi hm hs
                    rw[hs2]
                    ((conv=>whnf);repeat' ((first|(with_reducible first|apply a_|apply b_|apply c_)|((with_reducible first|apply d_|apply e_|apply f_|apply g_);focus first|omega|(simp only[q_]<;>omega))|((with_reducible first|apply i_|apply h_);focus first|omega|(simp only[q_]<;>omega))|((with_reducible apply h_);focus first|decide|kernel_rfl)|refine s_ (by decide) ?_|refine t_ (by decide) ?_|(refine Idx.mapI (f:=ek) j rfl qj ?_)|refine r_ pv rfl ?_|with_reducible first|apply l_|apply m_|apply n_|apply o_|refine p_ (fun _=>?_) (fun _=>?_))<;>(conv=>whnf)))
                    all_goals first|exact Ret.le ⟨.inr ⟨⟨1,rfl⟩,.inl rfl⟩,.inl rfl,rfl⟩ | (exfalso;omega)
                · have e2:list.take j=list:=List.take_of_length_le (by omega)
                  rw[e2] at hr
                  have hs:=mapX_step (f:=projR list cols) qi hm hr
                  ((conv=>whnf);repeat' ((first|(with_reducible first|apply a_|apply b_|apply c_)|((with_reducible first|apply d_|apply e_|apply f_|apply g_);focus first|omega|(simp only[q_]<;>omega))|((with_reducible first|apply i_|apply h_);focus first|omega|(simp only[q_]<;>omega))|((with_reducible apply h_);focus first|decide|kernel_rfl)|refine s_ (by decide) ?_|refine t_ (by decide) ?_|(refine Need.by 24 rfl (by simp only[List.length_map,List.length_singleton];omega) ?_)|with_reducible first|apply l_|apply m_|apply n_|apply o_|refine p_ (fun _=>?_) (fun _=>?_))<;>(conv=>whnf)))
                  all_goals first
                    | (exfalso;omega)
                    | skip
                  refine⟨(i+1,m++[r]),⟨by show i+1≤_;omega,hs⟩,by show l.length - (i+1)<l.length - i;omega,[(60,70)],rfl,rfl,⟨.inl rfl,.inl rfl,⟨rfl,rfl,rfl,rfl,(show _=(m++[r]).map rowC by rw[List.map_append];rfl)⟩,.inl rfl,PLe.int (by simp),PLe.int rfl,trivial⟩,⟨rfl,rfl,rfl⟩,trivial⟩
            · have e2:l.take i=l:=List.take_of_length_le (by omega)
              rw[e2] at hm
              rw[hm]
              ((conv=>whnf);repeat' ((first|(with_reducible first|apply a_|apply b_|apply c_)|((with_reducible first|apply d_|apply e_|apply f_|apply g_);focus first|omega|(simp only[q_]<;>omega))|((with_reducible first|apply i_|apply h_);focus first|omega|(simp only[q_]<;>omega))|((with_reducible apply h_);focus first|decide|kernel_rfl)|refine s_ (by decide) ?_|refine t_ (by decide) ?_|with_reducible first|apply l_|apply m_|apply n_|apply o_|refine p_ (fun _=>?_) (fun _=>?_))<;>(conv=>whnf)))
              all_goals first|exact Ret.eq rfl | (exfalso;omega)
  · rw[if_pos h1]
    ((conv=>whnf);repeat' ((first|(with_reducible first|apply a_|apply b_|apply c_)|((with_reducible first|apply d_|apply e_|apply f_|apply g_);focus first|omega|(simp only[q_]<;>omega))|((with_reducible first|apply i_|apply h_);focus first|omega|(simp only[q_]<;>omega))|((with_reducible apply h_);focus first|decide|kernel_rfl)|refine s_ (by decide) ?_|refine t_ (by decide) ?_|refine r_ pc rfl ?_|with_reducible first|apply l_|apply m_|apply n_|apply o_|refine p_ (fun _=>?_) (fun _=>?_))<;>(conv=>whnf)))
    all_goals first|exact Ret.le ⟨.inr ⟨⟨1,rfl⟩,.inl rfl⟩,.inl rfl,rfl⟩ | (exfalso;omega)
end
section
open Go.RowKit K
set_option maxRecDepth 100000
set_option maxRecDepth 100000
end
section
open Go.RowKit K NumP NumW NumRd NumZ NumL
set_option maxRecDepth 100000
end
section
open Go.RowKit K NumP NumW NumRd NumZ NumL
set_option maxRecDepth 100000
end
section
open Go.RowKit K NumP NumW NumRd NumZ NumL
set_option maxRecDepth 100000
end
section
open Go.RowKit K
set_option maxRecDepth 100000
set_option maxRecDepth 100000
theorem rowEqB_iff (a b:RowT):rowEqB a b=true↔a=b:=listEqB_iff ValueD.eqB_iff a b
theorem rowsEqB_iff (a b:List RowT):rowsEqB a b=true↔a=b:=listEqB_iff rowEqB_iff a b
end
section
open Go.RowKit K
set_option maxRecDepth 100000
def litN (v:ValueD):NodeD:=⟨1,0,v,[]⟩
theorem p_nodes (l:List NodeD):Pure Tryz.prog 24 [slV 6 NodeD.c l] (slV 6 NodeD.c l):=by
  refine pure_of Tryz.func24 (by rfl) rfl (by kernel_rfl) (by rfl) ?_
  ((conv=>whnf);repeat' ((first|(with_reducible first|apply a_|apply b_|apply c_)|((with_reducible first|apply d_|apply e_|apply f_|apply g_);focus first|omega|(simp only[q_]<;>omega))|((with_reducible first|apply i_|apply h_);focus first|omega|(simp only[q_]<;>omega))|((with_reducible apply h_);focus first|decide|kernel_rfl)|refine s_ (by decide) ?_|refine t_ (by decide) ?_|with_reducible first|apply l_|apply m_|apply n_|apply o_|refine p_ (fun _=>?_) (fun _=>?_))<;>(conv=>whnf)))
  exact Ret.eq rfl
def colN (s:List UInt8):NodeD:=⟨2,0,noV,s⟩
def opsN (op k:Int):NodeD:=⟨op,k,noV,[]⟩
theorem p_ncol (s:List UInt8):Pure Tryz.prog 25 [pStr (tx s)] (nV (colN s)):=by
  refine pure_of Tryz.func25 (by rfl) rfl (by kernel_rfl) (by rfl) ?_
  ((conv=>whnf);repeat' ((first|(with_reducible first|apply a_|apply b_|apply c_)|((with_reducible first|apply d_|apply e_|apply f_|apply g_);focus first|omega|(simp only[q_]<;>omega))|((with_reducible first|apply i_|apply h_);focus first|omega|(simp only[q_]<;>omega))|((with_reducible apply h_);focus first|decide|kernel_rfl)|refine s_ (by decide) ?_|refine t_ (by decide) ?_|with_reducible first|apply l_|apply m_|apply n_|apply o_|refine p_ (fun _=>?_) (fun _=>?_))<;>(conv=>whnf)))
  exact Ret.eq rfl
theorem p_nlit (v:ValueD):Pure Tryz.prog 26 [vV v] (nV (litN v)):=by
  refine pure_of Tryz.func26 (by rfl) rfl (by kernel_rfl) (by rfl) ?_
  ((conv=>whnf);repeat' ((first|(with_reducible first|apply a_|apply b_|apply c_)|((with_reducible first|apply d_|apply e_|apply f_|apply g_);focus first|omega|(simp only[q_]<;>omega))|((with_reducible first|apply i_|apply h_);focus first|omega|(simp only[q_]<;>omega))|((with_reducible apply h_);focus first|decide|kernel_rfl)|refine s_ (by decide) ?_|refine t_ (by decide) ?_|with_reducible first|apply l_|apply m_|apply n_|apply o_|refine p_ (fun _=>?_) (fun _=>?_))<;>(conv=>whnf)))
  exact Ret.eq rfl
theorem p_nop (op k:Int):Pure Tryz.prog 27 [pInt .i64 op,pInt .i64 k] (nV (opsN op k)):=by
  refine pure_of Tryz.func27 (by rfl) rfl (by kernel_rfl) (by rfl) ?_
  ((conv=>whnf);repeat' ((first|(with_reducible first|apply a_|apply b_|apply c_)|((with_reducible first|apply d_|apply e_|apply f_|apply g_);focus first|omega|(simp only[q_]<;>omega))|((with_reducible first|apply i_|apply h_);focus first|omega|(simp only[q_]<;>omega))|((with_reducible apply h_);focus first|decide|kernel_rfl)|refine s_ (by decide) ?_|refine t_ (by decide) ?_|with_reducible first|apply l_|apply m_|apply n_|apply o_|refine p_ (fun _=>?_) (fun _=>?_))<;>(conv=>whnf)))
  exact Ret.eq rfl
theorem p_vI (n:Int):Pure Tryz.prog 22 [pInt .i64 n] (vV ⟨1,n,[]⟩):=by
  refine pure_of Tryz.func22 (by rfl) rfl (by kernel_rfl) (by rfl) ?_
  ((conv=>whnf);repeat' ((first|(with_reducible first|apply a_|apply b_|apply c_)|((with_reducible first|apply d_|apply e_|apply f_|apply g_);focus first|omega|(simp only[q_]<;>omega))|((with_reducible first|apply i_|apply h_);focus first|omega|(simp only[q_]<;>omega))|((with_reducible apply h_);focus first|decide|kernel_rfl)|refine s_ (by decide) ?_|refine t_ (by decide) ?_|with_reducible first|apply l_|apply m_|apply n_|apply o_|refine p_ (fun _=>?_) (fun _=>?_))<;>(conv=>whnf)))
  exact Ret.eq rfl
theorem p_vT (s:List UInt8):Pure Tryz.prog 23 [pStr (tx s)] (vV ⟨2,0,s⟩):=by
  refine pure_of Tryz.func23 (by rfl) rfl (by kernel_rfl) (by rfl) ?_
  ((conv=>whnf);repeat' ((first|(with_reducible first|apply a_|apply b_|apply c_)|((with_reducible first|apply d_|apply e_|apply f_|apply g_);focus first|omega|(simp only[q_]<;>omega))|((with_reducible first|apply i_|apply h_);focus first|omega|(simp only[q_]<;>omega))|((with_reducible apply h_);focus first|decide|kernel_rfl)|refine s_ (by decide) ?_|refine t_ (by decide) ?_|with_reducible first|apply l_|apply m_|apply n_|apply o_|refine p_ (fun _=>?_) (fun _=>?_))<;>(conv=>whnf)))
  exact Ret.eq rfl
end
section
open Go.RowKit K
set_option maxRecDepth 100000
set_option maxRecDepth 100000
theorem p_brow (l:List ValueD):Pure Tryz.prog 21 [slV 3 ValueD.c l] (slV 3 ValueD.c l):=by
  refine pure_of Tryz.func21 (by rfl) rfl (by kernel_rfl) (by rfl) ?_
  ((conv=>whnf);repeat' ((first|(with_reducible first|apply a_|apply b_|apply c_)|((with_reducible first|apply d_|apply e_|apply f_|apply g_);focus first|omega|(simp only[q_]<;>omega))|((with_reducible first|apply i_|apply h_);focus first|omega|(simp only[q_]<;>omega))|((with_reducible apply h_);focus first|decide|kernel_rfl)|refine s_ (by decide) ?_|refine t_ (by decide) ?_|with_reducible first|apply l_|apply m_|apply n_|apply o_|refine p_ (fun _=>?_) (fun _=>?_))<;>(conv=>whnf)))
  exact Ret.eq rfl
theorem p_brows (l:List RowT):Pure Tryz.prog 20 [rwsV l] (rwsV l):=by
  refine pure_of Tryz.func20 (by rfl) rfl (by kernel_rfl) (by rfl) ?_
  ((conv=>whnf);repeat' ((first|(with_reducible first|apply a_|apply b_|apply c_)|((with_reducible first|apply d_|apply e_|apply f_|apply g_);focus first|omega|(simp only[q_]<;>omega))|((with_reducible first|apply i_|apply h_);focus first|omega|(simp only[q_]<;>omega))|((with_reducible apply h_);focus first|decide|kernel_rfl)|refine s_ (by decide) ?_|refine t_ (by decide) ?_|with_reducible first|apply l_|apply m_|apply n_|apply o_|refine p_ (fun _=>?_) (fun _=>?_))<;>(conv=>whnf)))
  exact Ret.eq rfl
theorem p_brows0 (rows:List (List C)):Pure Tryz.prog 20 [.d (.c (.sl 1 rows))] (.d (.c (.sl 1 rows))):=by
  refine pure_of Tryz.func20 (by rfl) rfl (by kernel_rfl) (by rfl) ?_
  ((conv=>whnf);repeat' ((first|(with_reducible first|apply a_|apply b_|apply c_)|((with_reducible first|apply d_|apply e_|apply f_|apply g_);focus first|omega|(simp only[q_]<;>omega))|((with_reducible first|apply i_|apply h_);focus first|omega|(simp only[q_]<;>omega))|((with_reducible apply h_);focus first|decide|kernel_rfl)|refine s_ (by decide) ?_|refine t_ (by decide) ?_|with_reducible first|apply l_|apply m_|apply n_|apply o_|refine p_ (fun _=>?_) (fun _=>?_))<;>(conv=>whnf)))
  exact Ret.eq rfl
theorem nilrow_pure {P:Program} {f:FuncId} {rows:List (List C)} {res:PV} (h:Pure P f [.d (.c (.sl 1 ([.sl 3 []]::rows)))] res):Pure P f [.d (.c (.sl 1 ([.v (.slice none 0 0)]::rows)))] res:=by
  refine⟨h.1,fun F w vs hG hF hv=>h.2 F w vs hG hF ?_⟩
  cases vs with
  | nil=>unfold PsRep at hv;exact hv.elim
  | cons v vs=>
    unfold PsRep at hv ⊢
    refine⟨?_,hv.2⟩
    have h1:=hv.1
    unfold PRep DRep CRep at h1 ⊢
    obtain⟨a,cap,e,c1,c2,c3,c4⟩:=h1
    refine⟨a,cap,e,c1,c2,c3,.inr ?_⟩
    obtain⟨b,off,e2,c5⟩:=c4.resolve_left (by simp)
    refine⟨b,off,e2,?_⟩
    unfold RowsAt at c5 ⊢
    refine⟨⟨rfl,?_⟩,c5.2⟩
    have c6:=c5.1.2
    unfold CsAt at c6 ⊢
    obtain⟨⟨f1,u,f2,f3⟩,f4⟩:=c6
    refine⟨⟨f1,u,f2,?_⟩,by unfold CsAt;trivial⟩
    unfold CRep at f3 ⊢
    obtain⟨rfl,_⟩:=f3
    exact⟨none,0,rfl,Nat.le_refl _,Nat.zero_le _,fun _=>rfl,.inl rfl⟩
theorem hnode_small {e:List NodeD} (h:∀n∈e,n.Name.length≤10∧WholeP.In64 n.V.N):∀n∈e,hNode n:=fun n hn=>⟨by have:=(h n hn).1;unfold okText;omega,(h n hn).2⟩
def bb:ValueD:=⟨2,0,[98]⟩
def bi (n:Int):ValueD:=⟨1,n,[]⟩
def bR0:RowT:=[bi 2,bb]
def bR1:RowT:=[bi 1,bb]
def bgL:List RowT:=[bR0,bR1,bR0]
def bgC:List (List UInt8):=[[110],[115]]
def bgE:List NodeD:=[colN [110],litN (bi 1),opsN 14 2]
def bgP:List (List NodeD):=[[colN [115]],[colN [110],opsN 3 1]]
def bgA:List AggD:=[⟨2,0⟩,⟨1,-1⟩]
theorem g1:filtF bgL bgC bgE=([bR0,bR0],0):=by rfl
theorem g2:sortF bgL [⟨1,false⟩,⟨0,false⟩]=([bR1,bR0,bR0],0):=by rfl
theorem g3:distF bgL=([bR0,bR1],0):=by rfl
theorem g4:sumF (colF bgL 0)=(bi 5,0):=by rfl
theorem g5:projF [bR0] bgC bgP=([[bb,bi (-2)]],0):=by rfl
theorem g6:joinF2 [bR0] [bR0,bR1]=([bR0++bR0,bR0++bR1],0):=by rfl
theorem g7:limF bgL 1 1=([bR1],0):=by rfl
theorem g8:rowsChk [[],bR0]=1:=by decide +kernel
set_option maxHeartbeats 1000000 in
theorem p_bagbegun:Pure Tryz.prog 9 [] (pBool true):=by
  have hL:∀r∈bgL,∀v∈r,WholeP.In64 v.N:=by decide
  have h0:∀r∈[bR0],∀v∈r,WholeP.In64 v.N:=by decide
  have q1:=p_Filter bgL hL bgC bgE (hnode_small (by decide))
  rw[g1] at q1
  have q2:=p_Sort20 bgL [⟨1,false⟩,⟨0,false⟩] (fun _=>.inr (.inr (by decide)))
  rw[g2] at q2
  have q3:=p_Distinct bgL hL
  rw[g3] at q3
  have t1:=p_tell_sum bgL 0 (by decide) (by decide) (by decide) hL
  rw[g4] at t1
  have t2:=p_tell_count bgL (-1) (by decide)
  have pg:=p_grouping_ok bgL (by decide) [1] bgA (by decide) (by decide) (by rfl) (by decide)
  have q4:=p_Group1 bgL 1 bb bgA [bi 5,bi 3] (by decide) (by rfl) (fun r hr=>by
    have:r=bR0∨r=bR1:=by
      rcases List.mem_cons.1 hr with h | hr
      · exact .inl h
      · rcases List.mem_cons.1 hr with h | hr
        · exact .inr h
        · exact .inl (List.mem_singleton.1 hr)
    rcases this with rfl | rfl<;>exact⟨by decide,rfl⟩) pg (by decide) rfl (fun k h h2=>by
    have:k=0∨k=1:=by have:k<2:=h;omega
    rcases this with rfl | rfl
    · exact t1
    · exact t2)
  have q5:=p_Project [bR0] h0 bgC bgP (fun e he=>by
    have:e=[colN [115]]∨e=[colN [110],opsN 3 1]:=by simpa [bgP] using he
    rcases this with rfl | rfl<;>exact hnode_small (by decide))
  rw[g5] at q5
  have q6:=s_Join [bR0] [bR0,bR1]
  rw[g6] at q6
  have q7:=p_Limit bgL 1 1
  rw[g7] at q7
  have q8:=p_bagcheck [[],bR0]
  rw[g8] at q8
  have q8:=nilrow_pure (rows:=[rowC bR0]) q8
  have cn:Pure _ _ [pStr ⟨#[110]⟩] _:=p_ncol [110]
  have cs:Pure _ _ [pStr ⟨#[115]⟩] _:=p_ncol [115]
  have vt:Pure _ _ [pStr ⟨#[98]⟩] _:=p_vT [98]
  have i2:=p_vI 2
  have i1:=p_vI 1
  have i5:=p_vI 5
  have i3:=p_vI 3
  have im:=p_vI (-2)
  have nl:=p_nlit (bi 1)
  have n1:=p_nop 14 2
  have n2:=p_nop 3 1
  have e1:=p_nodes bgE
  have e2:=p_nodes [colN [115]]
  have e3:=p_nodes [colN [110],opsN 3 1]
  have r0:=p_brow bR0
  have r1:=p_brow bR1
  have r2:=p_brow [bb,bi 5,bi 3]
  have r3:=p_brow [bb,bi (-2)]
  have w0:=p_brows bgL
  have w1:=p_brows [bR0,bR0]
  have w2:=p_brows [bR1,bR0,bR0]
  have w3:=p_brows [[bb,bi 5,bi 3]]
  have w4:=p_brows [[bb,bi (-2)]]
  have w5:=p_brows0 [[.v (.slice none 0 0)],rowC bR0]
  have s1:=p_samerows [bR0,bR0] [bR0,bR0] (by decide) (by decide)
  have s2:=p_samerows [bR1,bR0,bR0] [bR1,bR0,bR0] (by decide) (by decide)
  have s3:=p_samerows [bR0,bR1] [bR0,bR1] (by decide) (by decide)
  have s4:=p_samerows [[bb,bi 5,bi 3]] [[bb,bi 5,bi 3]] (by decide) (by decide)
  have s5:=p_samerows [[bb,bi (-2)]] [[bb,bi (-2)]] (by decide) (by decide)
  have s6:=p_samerows [bR1] [bR1] (by decide) (by decide)
  rw[(rowsEqB_iff _ _).2 rfl] at s1 s2 s3 s4 s5 s6
  refine pure_of Tryz.func9 (by rfl) rfl (by kernel_rfl) (by rfl) ?_
  ((conv=>whnf);repeat' ((first|(with_reducible first|apply a_|apply b_|apply c_)|((with_reducible first|apply d_|apply e_|apply f_|apply g_);focus first|omega|(simp only[q_]<;>omega))|((with_reducible first|apply i_|apply h_);focus first|omega|(simp only[q_]<;>omega))|((with_reducible apply h_);focus first|decide|kernel_rfl)|refine s_ (by decide) ?_|refine t_ (by decide) ?_|refine r_ vt rfl ?_|refine r_ i2 rfl ?_|refine r_ i1 rfl ?_|refine r_ i5 rfl ?_|refine r_ i3 rfl ?_|refine r_ im rfl ?_|refine r_ r0 rfl ?_|refine r_ r1 rfl ?_|refine r_ r2 rfl ?_|refine r_ r3 rfl ?_|refine r_ w0 rfl ?_|refine r_ w1 rfl ?_|refine r_ w2 rfl ?_|refine r_ w3 rfl ?_|refine r_ w4 rfl ?_|refine r_ w5 rfl ?_|refine r_ cn rfl ?_|refine r_ cs rfl ?_|refine r_ nl rfl ?_|refine r_ n1 rfl ?_|refine r_ n2 rfl ?_|refine r_ e1 rfl ?_|refine r_ e2 rfl ?_|refine r_ e3 rfl ?_|refine r_ q1 rfl ?_|refine r_ q2 rfl ?_|refine r_ q3 rfl ?_|refine r_ q4 rfl ?_|refine r_ q5 rfl ?_|(refine CallP.ret [(NK,86)] _ _ _ _ _ _ _ q6 rfl rfl rfl rfl trivial ?_)|refine r_ q7 rfl ?_|refine r_ q8 rfl ?_|refine r_ s1 rfl ?_|refine r_ s2 rfl ?_|refine r_ s3 rfl ?_|refine r_ s4 rfl ?_|refine r_ s5 rfl ?_|refine r_ s6 rfl ?_|(refine Idx.mk _ (by decide) rfl ?_)|with_reducible first|apply l_|apply m_|apply n_|apply o_|refine p_ (fun _=>?_) (fun _=>?_))<;>(conv=>whnf)))
  all_goals first
    | exact Ret.eq rfl
    | exact Ret.bool (by decide +kernel)
    | trace_state
end
section
open Go.RowKit K
set_option maxRecDepth 100000
set_option maxRecDepth 100000
abbrev okRws (l:List RowT):Prop:=okSl (Tryz.prog.bytesOf 31) (okSl (Tryz.prog.bytesOf 49) ValueD.ok) l
theorem okRws_in {l:List RowT} (h:okRws l):∀r∈l,∀v∈r,WholeP.In64 v.N:=fun r hr v hv=>((h.2 r hr).2 v hv).2.1
theorem okRws_row {l:List RowT} (h:okRws l):∀r∈l,r.length≤140737488355328:=fun r hr=>by
  have h1:=(h.2 r hr).1
  rw[show Tryz.prog.bytesOf 49=32 by kernel_rfl] at h1
  omega
theorem rowsChk_some {l m:List RowT} (h:rowsChk l=0) (hm:∀r∈m,r∈l) (hl:m.length≤40):rowsChk m=0:=by
  obtain⟨_,h8⟩:=rowsChk_ok.1 h
  refine rowsChk_ok.2 ⟨hl,fun r hr=>?_⟩
  obtain⟨h1,h2,h3⟩:=h8 r (hm r hr)
  refine⟨h1,?_,h3⟩
  cases m with
  | nil=>cases hr
  | cons x xs=>
    have:=(h8 x (hm x List.mem_cons_self)).2.1
    rw[h2,← this];rfl
theorem samerows_refl (a:List RowT) (hla:a.length≤140737488355328) (ha:∀r∈a,r.length≤140737488355328):Pure Tryz.prog 10 [rwsV a,rwsV a] (pBool true):=by
  have:=p_samerows a a hla ha
  rwa [(rowsEqB_iff a a).2 rfl] at this
theorem same_small {a:List RowT} (h:a.length≤40∧∀r∈a,r.length≤16):Pure Tryz.prog 10 [rwsV a,rwsV a] (pBool true):=samerows_refl a (by omega) fun r hr=>by have:=h.2 r hr;omega
end
section
open Go.RowKit K
set_option maxRecDepth 100000
set_option maxRecDepth 100000
theorem rows_small {l:List RowT} (h:rowsChk l=0):l.length≤40∧∀r∈l,r.length≤16:=by
  obtain⟨h1,h2⟩:=rowsChk_ok.1 h
  exact⟨h1,fun r hr=>by have:=(h2 r hr).1;omega⟩
end
section
open Go.RowKit LikeP
end
section
open Go.RowKit LikeP
end
section
open Go.RowKit K
set_option maxRecDepth 100000
end
section
open Go.RowKit K
set_option maxRecDepth 100000
end
section
open Go.RowKit K
set_option maxRecDepth 100000
end
section
open Go.RowKit K
set_option maxRecDepth 100000
end
section
open Go.RowKit K
set_option maxRecDepth 100000
end
section
open Go.RowKit K
set_option maxRecDepth 100000
structure FoldD where
  e:List NodeD
  cols:Bool
def FoldD.c (x:FoldD):List C:=[.sl 6 (x.e.map NodeD.c),.v (.bool x.cols)]
end
section
open Go.RowKit K
set_option maxRecDepth 100000
end
section
open Go.RowKit K
set_option maxRecDepth 100000
end
section
open Go.RowKit K
set_option maxRecDepth 100000
end
section
open Go.RowKit
end
section
open Go.RowKit K
set_option maxRecDepth 100000
end
section
open Go.RowKit K
set_option maxRecDepth 100000
def HN (e:List NodeD):Prop:=∀n∈e,hNode n
end
section
open Go.RowKit K
set_option maxRecDepth 100000
end
section
open Go.RowKit K
set_option maxRecDepth 100000
set_option maxRecDepth 100000
theorem keepF_zero {f:RowT→Bool×Int}:∀{m:List RowT},(keepF f m).2=0→∀r∈m,(f r).2=0
  | [],_,r,hr=>by cases hr
  | y::m,h4,r,hr=>by
    rw[keepF] at h4
    split at h4
    · rename_i q;exact absurd h4 q
    · rename_i q
      split at h4
      · rename_i q2;exact absurd h4 q2
      · rename_i q2
        rcases List.mem_cons.1 hr with rfl | hr
        · exact Decidable.of_not_not q
        · exact keepF_zero (Decidable.of_not_not q2) r hr
theorem keepF_no {f:RowT→Bool×Int}:∀{m:List RowT},(keepF f m).2≠0→(keepF f m).1=[]
  | [],h=>absurd rfl h
  | y::m,h=>by
    rw[keepF] at h ⊢
    split
    · rfl
    · rename_i q
      rw[if_neg q] at h
      split
      · rfl
      · rename_i q2
        rw[if_neg q2] at h
        exact absurd rfl h
theorem keepF_sub (f:RowT→Bool×Int) (l:List RowT):(∀r∈(keepF f l).1,r∈l)∧(keepF f l).1.length≤l.length:=by
  by_cases h:(keepF f l).2=0
  · rw[keepF_ok (keepF_zero h)]
    exact⟨fun r hr=>(List.mem_filter.1 hr).1,List.length_filter_le _ _⟩
  · rw[keepF_no h]
    exact⟨(fun r h=>by cases h),Nat.zero_le _⟩
theorem filtF_sub (l:List RowT) (cols:List (List UInt8)) (e:List NodeD):(∀r∈(filtF l cols e).1,r∈l)∧(filtF l cols e).1.length≤l.length:=by
  unfold filtF
  split
  · exact⟨(fun r h=>by cases h),Nat.zero_le _⟩
  · split
    · exact⟨(fun r h=>by cases h),Nat.zero_le _⟩
    · exact keepF_sub _ l
abbrev okNs (e:List NodeD):Prop:=okSl (Tryz.prog.bytesOf 54) NodeD.ok e
theorem okNs_hn {e:List NodeD} (h:okNs e):HN e:=fun n hn=>by
  have:=h.2 n hn
  exact⟨this.2.2.2,this.2.2.1.2.1⟩
end
section
open Go.RowKit K
set_option maxRecDepth 100000
set_option maxRecDepth 100000
theorem filtF_ok {l:List RowT} {cols:List (List UInt8)} {e:List NodeD} (h:(filtF l cols e).2=0):rowsChk l=0∧checkF e=0∧(∀r∈l,(truF e cols r).2=0)∧(filtF l cols e).1=l.filter fun r=>(truF e cols r).1:=by
  unfold filtF at h ⊢
  by_cases h1:rowsChk l=0
  · rw[if_neg (not_not_intro h1)] at h ⊢
    by_cases h2:checkF e=0
    · rw[if_neg (not_not_intro h2)] at h ⊢
      have h3:=keepF_zero h
      exact⟨h1,h2,h3,by rw[keepF_ok h3]⟩
    · rw[if_pos h2] at h;exact absurd h h2
  · rw[if_pos h1] at h;exact absurd h h1
theorem filtF_of {l:List RowT} {cols:List (List UInt8)} {e:List NodeD} (h1:rowsChk l=0) (h2:checkF e=0) (h3:∀r∈l,(truF e cols r).2=0):filtF l cols e=(l.filter fun r=>(truF e cols r).1,0):=by
  unfold filtF
  rw[if_neg (not_not_intro h1),if_neg (not_not_intro h2),keepF_ok h3]
end
section
open Go.RowKit K
set_option maxRecDepth 100000
set_option maxRecDepth 100000
theorem sortF_ok {l:List RowT} {keys:List KeyD} (h:(sortF l keys).2=0):rowsChk l=0∧keys.length≤8∧keysBad l keys=false∧(sortF l keys).1=isrt (ordK keys) l:=by
  unfold sortF at h ⊢
  by_cases h1:rowsChk l=0
  · rw[if_neg (not_not_intro h1)] at h ⊢
    by_cases h2:8<keys.length
    · rw[if_pos h2] at h;cases h
    · rw[if_neg h2] at h ⊢
      by_cases h3:keysBad l keys=true
      · rw[if_pos h3] at h;cases h
      · rw[if_neg h3]
        exact⟨h1,by omega,by simpa using h3,rfl⟩
  · rw[if_pos h1] at h;exact absurd h h1
theorem sortF_no {l:List RowT} {keys:List KeyD} (h:(sortF l keys).2≠0):(sortF l keys).1=[]:=by
  unfold sortF at h ⊢
  by_cases h1:rowsChk l=0
  · rw[if_neg (not_not_intro h1)] at h ⊢
    by_cases h2:8<keys.length
    · rw[if_pos h2]
    · rw[if_neg h2] at h ⊢
      by_cases h3:keysBad l keys=true
      · rw[if_pos h3]
      · rw[if_neg h3] at h;exact absurd rfl h
  · rw[if_pos h1]
theorem sortF_of {l:List RowT} {keys:List KeyD} (h1:rowsChk l=0) (h2:keys.length≤8) (h3:keysBad l keys=false):sortF l keys=(isrt (ordK keys) l,0):=by
  unfold sortF
  rw[if_neg (not_not_intro h1),if_neg (by omega),if_neg (by rw[h3];decide)]
theorem keysBad_all {l:List RowT}:∀{keys:List KeyD},keysBad l keys=false↔∀k∈keys,placesF l [k.Col]=0
  | []=>⟨fun _ k h=>absurd h List.not_mem_nil,fun _=>rfl⟩
  | k::ks=>by
    rw[keysBad,Bool.or_eq_false_iff,keysBad_all]
    constructor
    · rintro⟨h1,h2⟩ x hx
      rcases List.mem_cons.1 hx with rfl | hx
      · exact Decidable.of_not_not (of_decide_eq_false h1)
      · exact h2 x hx
    · intro h
      exact⟨decide_eq_false (not_not_intro (h k List.mem_cons_self)),fun x hx=>h x (List.mem_cons_of_mem _ hx)⟩
theorem places_cols {l:List RowT} {c:Int} (hl:rowsChk l=0):placesF l [c]=0↔∀r∈l,0≤c∧c<r.length:=by
  rw[places_one]
  have h8:=(rowsChk_ok.1 hl).2
  constructor
  · intro h r hr
    have hw:=(h8 r hr).2.1
    have hp:=List.length_pos_of_mem hr
    split at h
    · cases h
    · rename_i q
      constructor
      · apply Decidable.byContradiction;intro x;exact q ⟨hp,.inl (by omega)⟩
      · apply Decidable.byContradiction;intro x;exact q ⟨hp,.inr (by omega)⟩
  · intro h
    cases l with
    | nil=>rw[if_neg (fun q=>absurd q.1 (Nat.lt_irrefl 0))]
    | cons r l=>
      obtain⟨h1,h2⟩:=h r List.mem_cons_self
      have hw:=(h8 r List.mem_cons_self).2.1
      rw[if_neg]
      rintro⟨_,q | q⟩<;>omega
theorem keysBad_some {l m:List RowT} {keys ks:List KeyD} (hl:rowsChk l=0) (hm:rowsChk m=0) (h:∀r∈m,r∈l) (hk:∀k∈ks,k∈keys) (hb:keysBad l keys=false):keysBad m ks=false:=by
  rw[keysBad_all] at hb ⊢
  intro k hk2
  exact (places_cols hm).2 fun r hr=>(places_cols hl).1 (hb k (hk k hk2)) r (h r hr)
theorem rowsChk_isrt {f:RowT→RowT→Int} {l:List RowT} (h:rowsChk l=0):rowsChk (isrt f l)=0:=rowsChk_some h (fun r hr=>isrt_mem hr) (by rw[isrt_len];exact (rowsChk_ok.1 h).1)
theorem sort_again {l:List RowT} {keys:List KeyD} (h:(sortF l keys).2=0):sortF (isrt (ordK keys) l) keys=(isrt (ordK keys) l,0):=by
  obtain⟨h1,h2,h3,_⟩:=sortF_ok h
  rw[sortF_of (rowsChk_isrt h1) h2 (keysBad_some h1 (rowsChk_isrt h1) (fun r hr=>isrt_mem hr) (fun _ q=>q) h3),isrt_again (ordK_ord keys)]
theorem sort_next {l:List RowT} {keys ks:List KeyD} {k:KeyD} (h:(sortF l keys).2=0) (hk:k∈keys):sortF (isrt (ordK ks) l) [k]=(isrt (ordK (k::ks)) l,0):=by
  obtain⟨h1,h2,h3,_⟩:=sortF_ok h
  rw[sortF_of (rowsChk_isrt h1) (by simp) (keysBad_some h1 (rowsChk_isrt h1) (fun r hr=>isrt_mem hr) (fun x q=>by rw[List.mem_singleton.1 q];exact hk) h3),isrt_radix]
theorem sort_filter {l:List RowT} {keys:List KeyD} {cols:List (List UInt8)} {e:List NodeD} (h:(sortF l keys).2=0) (hg:(filtF (isrt (ordK keys) l) cols e).2=0) :
    (filtF l cols e).2=0∧sortF (filtF l cols e).1 keys=((filtF (isrt (ordK keys) l) cols e).1,0):=by
  obtain⟨h1,h2,h3,_⟩:=sortF_ok h
  obtain⟨a1,a2,a3,a4⟩:=filtF_ok hg
  have hall:∀r∈l,(truF e cols r).2=0:=fun r hr=>a3 r (by
    have:=isrt_count (ordK_ord keys) (fun x=>rowEqB x r) l
    have hp:0<l.countP (fun x=>rowEqB x r):=List.countP_pos_iff.2 ⟨r,hr,(rowEqB_iff r r).2 rfl⟩
    obtain⟨x,hx,e⟩:=List.countP_pos_iff.1 (show 0<(isrt (ordK keys) l).countP (fun x=>rowEqB x r) by omega)
    rw[(rowEqB_iff x r).1 e] at hx
    exact hx)
  have e1:=filtF_of h1 a2 hall
  rw[e1]
  refine⟨rfl,?_⟩
  have hm:rowsChk (l.filter fun r=>(truF e cols r).1)=0:=rowsChk_some h1 (fun r hr=>(List.mem_filter.1 hr).1) (by have:=List.length_filter_le (fun r=>(truF e cols r).1) l;have:=(rowsChk_ok.1 h1).1;omega)
  rw[sortF_of hm h2 (keysBad_some h1 hm (fun r hr=>(List.mem_filter.1 hr).1) (fun _ q=>q) h3),isrt_filter (ordK_ord keys),a4]
end
section
open Go.RowKit K
set_option maxRecDepth 100000
set_option maxRecDepth 100000
theorem eqB_false {x y:ValueD} (h:vOrd x y≠0):ValueD.eqB x y=false:=by
  rw[Bool.eq_false_iff]
  intro e
  exact h ((vOrd_zero x y).2 ((ValueD.eqB_iff x y).1 e))
theorem less_desc {n:Int} {d:Bool} (h:n≠0):(!(decide (n<0)==d))=decide ((if d=true then -n else n)<0):=by
  cases d with
  | true=>
    by_cases q:n<0
    · rw[if_pos rfl,decide_eq_true q,decide_eq_false (by omega)];rfl
    · rw[if_pos rfl,decide_eq_false q,decide_eq_true (by omega)];rfl
  | false=>
    by_cases q:n<0
    · rw[if_neg (by decide),decide_eq_true q];rfl
    · rw[if_neg (by decide),decide_eq_false q];rfl
theorem p_keyless (a b:RowT) (keys:List KeyD) (hk:keys.length≤1000) (hc:∀k∈keys,0≤k.Col∧k.Col<a.length∧k.Col<b.length) (ta:∀v∈a,okText v.S) (tb:∀v∈b,okText v.S):Pure Tryz.prog 11 [slV 3 ValueD.c a,slV 3 ValueD.c b,slV 2 KeyD.c keys] (pBool (decide (ordK keys a b<0))):=by
  refine pure_of Tryz.func11 (by rfl) rfl (by kernel_rfl) (by rfl) ?_
  ((conv=>whnf);repeat' ((first|(with_reducible first|apply a_|apply b_|apply c_)|((with_reducible first|apply d_|apply e_|apply f_|apply g_);focus first|omega|(simp only[q_]<;>omega))|((with_reducible first|apply i_|apply h_);focus first|omega|(simp only[q_]<;>omega))|((with_reducible apply h_);focus first|decide|kernel_rfl)|refine s_ (by decide) ?_|refine t_ (by decide) ?_|with_reducible first|apply l_|apply m_|apply n_|apply o_|refine p_ (fun _=>?_) (fun _=>?_))<;>(conv=>whnf)))
  refine LoopC.mk Nat (fun k=>[(0,slV 3 ValueD.c a),(1,slV 3 ValueD.c b),(2,slV 2 KeyD.c keys),(7,pInt .i64 (k:Int))]) (fun _=>[]) [] (fun k=>k≤keys.length∧ordK keys a b=ordK (keys.drop k) a b) (fun k=>keys.length - k) 0 ⟨Nat.zero_le _,by rw[List.drop_zero]⟩ ?start ?round
  case start=>exact⟨[],rfl,rfl,⟨.inl rfl,.inl rfl,.inl rfl,.inl rfl,trivial⟩,trivial⟩
  case round=>
    rintro k ⟨hk,hz⟩
    have hk:k≤keys.length:=hk
    have hz:ordK keys a b=ordK (keys.drop k) a b:=hz
    by_cases q:k<keys.length
    · rw[List.drop_eq_getElem_cons q,ordK] at hz
      obtain⟨c1,c2,c3⟩:=hc _ (List.getElem_mem q)
      have ca:keys[k].Col.toNat<a.length:=by omega
      have cb:keys[k].Col.toNat<b.length:=by omega
      have cc:keys[k].Col=(keys[k].Col.toNat:Int):=by omega
      rw[List.getD_eq_getElem?_getD,List.getD_eq_getElem?_getD,List.getElem?_eq_getElem ca,List.getElem?_eq_getElem cb,Option.getD_some,Option.getD_some] at hz
      have pv:=p_vless a[keys[k].Col.toNat] b[keys[k].Col.toNat] (ta _ (List.getElem_mem ca)) (tb _ (List.getElem_mem cb))
      by_cases h0:vOrd a[keys[k].Col.toNat] b[keys[k].Col.toNat]=0
      · rw[h0] at hz
        have hz:ordK keys a b=ordK (keys.drop (k+1)) a b:=hz
        have hab:=(vOrd_zero _ _).1 h0
        ((conv=>whnf);repeat' ((first|(with_reducible first|apply a_|apply b_|apply c_)|((with_reducible first|apply d_|apply e_|apply f_|apply g_);focus first|omega|(simp only[q_]<;>omega))|((with_reducible first|apply i_|apply h_);focus first|omega|(simp only[q_]<;>omega))|((with_reducible apply h_);focus first|decide|kernel_rfl)|refine s_ (by decide) ?_|refine t_ (by decide) ?_|(first|refine Idx.mapI (f:=KeyD.c) k rfl q ?_|refine Idx.mapI (f:=ValueD.c) keys[k].Col.toNat cc ca ?_|refine Idx.mapI (f:=ValueD.c) keys[k].Col.toNat cc cb ?_)|with_reducible first|apply l_|apply m_|apply n_|apply o_|refine p_ (fun _=>?_) (fun _=>?_))<;>(conv=>whnf)))
        all_goals first
          | exact⟨k+1,⟨by show k+1≤_;omega,hz⟩,by show keys.length - (k+1)<keys.length - k;omega,[],rfl,rfl,⟨.inl rfl,.inl rfl,.inl rfl,.inl rfl,trivial⟩,trivial⟩
          | (exfalso;rename_i z;exact z (by rw[hab]))
          | (exfalso;rename_i z _;exact z (by rw[hab]))
          | (exfalso;rename_i z _ _;exact z (by rw[hab]))
          | skip
      · have hx:=eqB_false h0
        ((conv=>whnf);repeat' ((first|(with_reducible first|apply a_|apply b_|apply c_)|((with_reducible first|apply d_|apply e_|apply f_|apply g_);focus first|omega|(simp only[q_]<;>omega))|((with_reducible first|apply i_|apply h_);focus first|omega|(simp only[q_]<;>omega))|((with_reducible apply h_);focus first|decide|kernel_rfl)|refine s_ (by decide) ?_|refine t_ (by decide) ?_|(first|refine Idx.mapI (f:=KeyD.c) k rfl q ?_|refine Idx.mapI (f:=ValueD.c) keys[k].Col.toNat cc ca ?_|refine Idx.mapI (f:=ValueD.c) keys[k].Col.toNat cc cb ?_)|refine r_ pv rfl ?_|with_reducible first|apply l_|apply m_|apply n_|apply o_|refine p_ (fun _=>?_) (fun _=>?_))<;>(conv=>whnf)))
        all_goals first
          | (exfalso;rename_i z1 z2 z3;have hb:ValueD.eqB a[keys[k].Col.toNat] b[keys[k].Col.toNat]=true:=by simp[ValueD.eqB,z1,z2,z3]
             rw[hx] at hb;cases hb)
          | (refine Ret.bool ?_;rw[hz,if_pos h0];exact less_desc h0)
          | skip
    · rw[List.drop_of_length_le (by omega)] at hz
      rw[hz]
      ((conv=>whnf);repeat' ((first|(with_reducible first|apply a_|apply b_|apply c_)|((with_reducible first|apply d_|apply e_|apply f_|apply g_);focus first|omega|(simp only[q_]<;>omega))|((with_reducible first|apply i_|apply h_);focus first|omega|(simp only[q_]<;>omega))|((with_reducible apply h_);focus first|decide|kernel_rfl)|refine s_ (by decide) ?_|refine t_ (by decide) ?_|with_reducible first|apply l_|apply m_|apply n_|apply o_|refine p_ (fun _=>?_) (fun _=>?_))<;>(conv=>whnf)))
      all_goals first|exact Ret.bool rfl | (exfalso;omega)
theorem p_keyscheck (l:List RowT) (hr:∀r∈l,r.length≤140737488355328) (keys:List KeyD):Pure Tryz.prog 19 [rwsV l,slV 2 KeyD.c keys] (pInt .i64 (sortF l keys).2):=by
  have pc:=p_rowscheck l hr
  have pw:=p_widthR l hr
  have hkl:(keys.map KeyD.c).length=keys.length:=List.length_map _
  have hml:(l.map rowC).length=l.length:=List.length_map _
  refine pure_of Tryz.func19 (by rfl) rfl (by kernel_rfl) (by rfl) ?_
  unfold sortF
  by_cases h1:rowsChk l=0
  · rw[if_neg (not_not_intro h1)]
    rw[h1] at pc
    by_cases h2:8<keys.length
    · rw[if_pos h2]
      ((conv=>whnf);repeat' ((first|(with_reducible first|apply a_|apply b_|apply c_)|((with_reducible first|apply d_|apply e_|apply f_|apply g_);focus first|omega|(simp only[q_]<;>omega))|((with_reducible first|apply i_|apply h_);focus first|omega|(simp only[q_]<;>omega))|((with_reducible apply h_);focus first|decide|kernel_rfl)|refine s_ (by decide) ?_|refine t_ (by decide) ?_|refine r_ pc rfl ?_|with_reducible first|apply l_|apply m_|apply n_|apply o_|refine p_ (fun _=>?_) (fun _=>?_))<;>(conv=>whnf)))
      refine LoopC.mk Unit (fun _=>[(0,rwsV l),(1,slV 2 KeyD.c keys),(5,pInt .i64 2),(6,pInt .i64 0)]) (fun _=>[]) [] (fun _=>True) (fun _=>0) () trivial ?start1 ?round1
      case start1=>exact⟨[],rfl,rfl,⟨.inl rfl,.inl rfl,.inl rfl,.inl rfl,trivial⟩,trivial⟩
      case round1=>
        intro _ _
        ((conv=>whnf);repeat' ((first|(with_reducible first|apply a_|apply b_|apply c_)|((with_reducible first|apply d_|apply e_|apply f_|apply g_);focus first|omega|(simp only[q_]<;>omega))|((with_reducible first|apply i_|apply h_);focus first|omega|(simp only[q_]<;>omega))|((with_reducible apply h_);focus first|decide|kernel_rfl)|refine s_ (by decide) ?_|refine t_ (by decide) ?_|with_reducible first|apply l_|apply m_|apply n_|apply o_|refine p_ (fun _=>?_) (fun _=>?_))<;>(conv=>whnf)))
        all_goals first|exact Ret.int rfl | (exfalso;omega)
    · rw[if_neg h2]
      ((conv=>whnf);repeat' ((first|(with_reducible first|apply a_|apply b_|apply c_)|((with_reducible first|apply d_|apply e_|apply f_|apply g_);focus first|omega|(simp only[q_]<;>omega))|((with_reducible first|apply i_|apply h_);focus first|omega|(simp only[q_]<;>omega))|((with_reducible apply h_);focus first|decide|kernel_rfl)|refine s_ (by decide) ?_|refine t_ (by decide) ?_|refine r_ pc rfl ?_|with_reducible first|apply l_|apply m_|apply n_|apply o_|refine p_ (fun _=>?_) (fun _=>?_))<;>(conv=>whnf)))
      all_goals first | (exfalso;omega) | skip
      refine LoopC.mk (Nat×Int) (fun s=>[(0,rwsV l),(1,slV 2 KeyD.c keys),(5,pInt .i64 s.2),(6,pInt .i64 (s.1:Int))]) (fun _=>[]) [] (fun s=>s.1≤keys.length∧((s.2=0∧keysBad l keys=keysBad l (keys.drop s.1))∨(s.2=3∧keysBad l keys=true))) (fun s=>keys.length - s.1) (0,0) ⟨Nat.zero_le _,.inl ⟨rfl,by rw[List.drop_zero]⟩⟩ ?start2 ?round2
      case start2=>exact⟨[],rfl,rfl,⟨.inl rfl,.inl rfl,.inl rfl,.inl rfl,trivial⟩,trivial⟩
      case round2=>
        rintro⟨k,x⟩ ⟨hk,hx⟩
        have hk:k≤keys.length:=hk
        have hx:(x=0∧keysBad l keys=keysBad l (keys.drop k))∨(x=3∧keysBad l keys=true):=hx
        rcases hx with ⟨rfl,hb⟩ | ⟨rfl,hb⟩
        · by_cases q:k<keys.length∧0<l.length
          · obtain⟨q1,q2⟩:=q
            rw[List.drop_eq_getElem_cons q1,keysBad] at hb
            have hp:=places_one l keys[k].Col
            by_cases h:keys[k].Col<0∨(widthF l:Int)≤keys[k].Col
            · rw[if_pos ⟨q2,h⟩] at hp
              rw[hp] at hb
              have hb:keysBad l keys=true:=hb
              ((conv=>whnf);repeat' ((first|(with_reducible first|apply a_|apply b_|apply c_)|((with_reducible first|apply d_|apply e_|apply f_|apply g_);focus first|omega|(simp only[q_]<;>omega))|((with_reducible first|apply i_|apply h_);focus first|omega|(simp only[q_]<;>omega))|((with_reducible apply h_);focus first|decide|kernel_rfl)|refine s_ (by decide) ?_|refine t_ (by decide) ?_|(refine Idx.mapI (f:=KeyD.c) k rfl q1 ?_)|refine r_ pw rfl ?_|with_reducible first|apply l_|apply m_|apply n_|apply o_|refine p_ (fun _=>?_) (fun _=>?_))<;>(conv=>whnf)))
              all_goals first
                | exact⟨(k+1,3),⟨q1,.inr ⟨rfl,hb⟩⟩,by show keys.length - (k+1)<keys.length - k;omega,[],rfl,rfl,⟨.inl rfl,.inl rfl,.inl rfl,.inl rfl,trivial⟩,trivial⟩
                | (exfalso;omega)
                | skip
            · rw[if_neg (fun z=>h z.2)] at hp
              rw[hp] at hb
              have hb:keysBad l keys=keysBad l (keys.drop (k+1)):=hb
              ((conv=>whnf);repeat' ((first|(with_reducible first|apply a_|apply b_|apply c_)|((with_reducible first|apply d_|apply e_|apply f_|apply g_);focus first|omega|(simp only[q_]<;>omega))|((with_reducible first|apply i_|apply h_);focus first|omega|(simp only[q_]<;>omega))|((with_reducible apply h_);focus first|decide|kernel_rfl)|refine s_ (by decide) ?_|refine t_ (by decide) ?_|(refine Idx.mapI (f:=KeyD.c) k rfl q1 ?_)|refine r_ pw rfl ?_|with_reducible first|apply l_|apply m_|apply n_|apply o_|refine p_ (fun _=>?_) (fun _=>?_))<;>(conv=>whnf)))
              all_goals first
                | exact⟨(k+1,0),⟨q1,.inl ⟨rfl,hb⟩⟩,by show keys.length - (k+1)<keys.length - k;omega,[],rfl,rfl,⟨.inl rfl,.inl rfl,.inl rfl,.inl rfl,trivial⟩,trivial⟩
                | (exfalso;omega)
                | skip
          · have hb:keysBad l keys=false:=by
              by_cases q1:k<keys.length
              · have hl0:l=[]:=List.eq_nil_of_length_eq_zero (by omega)
                rw[keysBad_all]
                intro y _
                rw[hl0];rfl
              · rw[hb,List.drop_of_length_le (by omega)];rfl
            rw[hb,if_neg (by decide)]
            ((conv=>whnf);repeat' ((first|(with_reducible first|apply a_|apply b_|apply c_)|((with_reducible first|apply d_|apply e_|apply f_|apply g_);focus first|omega|(simp only[q_]<;>omega))|((with_reducible first|apply i_|apply h_);focus first|omega|(simp only[q_]<;>omega))|((with_reducible apply h_);focus first|decide|kernel_rfl)|refine s_ (by decide) ?_|refine t_ (by decide) ?_|with_reducible first|apply l_|apply m_|apply n_|apply o_|refine p_ (fun _=>?_) (fun _=>?_))<;>(conv=>whnf)))
            all_goals first|exact Ret.int rfl | (exfalso;omega)
        · rw[hb,if_pos rfl]
          ((conv=>whnf);repeat' ((first|(with_reducible first|apply a_|apply b_|apply c_)|((with_reducible first|apply d_|apply e_|apply f_|apply g_);focus first|omega|(simp only[q_]<;>omega))|((with_reducible first|apply i_|apply h_);focus first|omega|(simp only[q_]<;>omega))|((with_reducible apply h_);focus first|decide|kernel_rfl)|refine s_ (by decide) ?_|refine t_ (by decide) ?_|with_reducible first|apply l_|apply m_|apply n_|apply o_|refine p_ (fun _=>?_) (fun _=>?_))<;>(conv=>whnf)))
          all_goals first|exact Ret.int rfl | (exfalso;omega)
  · rw[if_pos h1]
    ((conv=>whnf);repeat' ((first|(with_reducible first|apply a_|apply b_|apply c_)|((with_reducible first|apply d_|apply e_|apply f_|apply g_);focus first|omega|(simp only[q_]<;>omega))|((with_reducible first|apply i_|apply h_);focus first|omega|(simp only[q_]<;>omega))|((with_reducible apply h_);focus first|decide|kernel_rfl)|refine s_ (by decide) ?_|refine t_ (by decide) ?_|refine r_ pc rfl ?_|with_reducible first|apply l_|apply m_|apply n_|apply o_|refine p_ (fun _=>?_) (fun _=>?_))<;>(conv=>whnf)))
    all_goals first | (exfalso;omega) | skip
    refine LoopC.mk Unit (fun _=>[(0,rwsV l),(1,slV 2 KeyD.c keys),(5,pInt .i64 (rowsChk l)),(6,pInt .i64 0)]) (fun _=>[]) [] (fun _=>True) (fun _=>0) () trivial ?start3 ?round3
    case start3=>exact⟨[],rfl,rfl,⟨.inl rfl,.inl rfl,.inl rfl,.inl rfl,trivial⟩,trivial⟩
    case round3=>
      intro _ _
      ((conv=>whnf);repeat' ((first|(with_reducible first|apply a_|apply b_|apply c_)|((with_reducible first|apply d_|apply e_|apply f_|apply g_);focus first|omega|(simp only[q_]<;>omega))|((with_reducible first|apply i_|apply h_);focus first|omega|(simp only[q_]<;>omega))|((with_reducible apply h_);focus first|decide|kernel_rfl)|refine s_ (by decide) ?_|refine t_ (by decide) ?_|with_reducible first|apply l_|apply m_|apply n_|apply o_|refine p_ (fun _=>?_) (fun _=>?_))<;>(conv=>whnf)))
      all_goals first|exact Ret.int rfl | (exfalso;omega)
theorem p_sortof (l:List RowT) (hl:okRws l) (keys:List KeyD):Pure Tryz.prog 8 [rwsV l,slV 2 KeyD.c keys] (.tup [rwsV (sortF l keys).1,pInt .i64 (sortF l keys).2]):=by
  have pc:=p_keyscheck l (okRws_row hl) keys
  have hml:(l.map rowC).length=l.length:=List.length_map _
  have hf:=ordK_ord keys
  by_cases h:(sortF l keys).2=0
  · obtain⟨h1,h2,h3,e1⟩:=sortF_ok h
    rw[h] at pc ⊢
    rw[e1]
    obtain⟨h40,h8⟩:=rowsChk_ok.1 h1
    have hcol:∀k∈keys,∀r∈l,0≤k.Col∧k.Col<r.length:=fun k hk r hr=>(places_cols h1).1 (keysBad_all.1 h3 k hk) r hr
    have htx:∀r∈l,∀v∈r,okText v.S:=fun r hr v hv=>((hl.2 r hr).2 v hv).2.2
    refine pure_of Tryz.func8 (by rfl) rfl (by kernel_rfl) (by rfl) ?_
    ((conv=>whnf);repeat' ((first|(with_reducible first|apply a_|apply b_|apply c_)|((with_reducible first|apply d_|apply e_|apply f_|apply g_);focus first|omega|(simp only[q_]<;>omega))|((with_reducible first|apply i_|apply h_);focus first|omega|(simp only[q_]<;>omega))|((with_reducible apply h_);focus first|decide|kernel_rfl)|refine s_ (by decide) ?_|refine t_ (by decide) ?_|refine r_ pc rfl ?_|with_reducible first|apply l_|apply m_|apply n_|apply o_|refine p_ (fun _=>?_) (fun _=>?_))<;>(conv=>whnf)))
    refine LoopC.mk Nat (fun i=>[(0,rwsV l),(1,slV 2 KeyD.c keys),(7,.d (.arr 150 tRowI 1 0 i)),(8,pInt .i64 (i:Int))]) (fun i=>[(150,.arr tRowI 1 ((isrt (ordK keys) (l.take i)).map rowC))]) [150] (fun i=>i≤l.length) (fun i=>l.length - i) 0 (Nat.zero_le _) ?start ?round
    case start=>
      refine⟨[],rfl,rfl,⟨.inl rfl,.inl rfl,⟨rfl,rfl,Nat.zero_lt_succ _,rfl,rfl⟩,.inl rfl,trivial⟩,⟨rfl,Nat.zero_lt_succ _,rfl⟩,trivial⟩
    case round=>
      intro i hi
      have hi:i≤l.length:=hi
      have hsl:(isrt (ordK keys) (l.take i)).length=i:=by rw[isrt_len,List.length_take];omega
      by_cases q:i<l.length
      · obtain⟨x,hx⟩:∃x,x=l[i]:=⟨_,rfl⟩
        have hxm:x∈l:=by rw[hx];exact List.getElem_mem q
        have htk:l.take (i+1)=l.take i++[x]:=by rw[hx];exact take_snoc q
        ((conv=>whnf);repeat' ((first|(with_reducible first|apply a_|apply b_|apply c_)|((with_reducible first|apply d_|apply e_|apply f_|apply g_);focus first|omega|(simp only[q_]<;>omega))|((with_reducible first|apply i_|apply h_);focus first|omega|(simp only[q_]<;>omega))|((with_reducible apply h_);focus first|decide|kernel_rfl)|refine s_ (by decide) ?_|refine t_ (by decide) ?_|(refine Idx.mapE i rfl q hx.symm ?_)|(refine Need.by 24 rfl (by simp only[List.length_map,List.length_take,List.length_singleton];omega) ?_)|with_reducible first|apply l_|apply m_|apply n_|apply o_|refine p_ (fun _=>?_) (fun _=>?_))<;>(conv=>whnf)))
        refine LoopC.mk (List RowT×List RowT) (fun s=>[(0,rwsV l),(1,slV 2 KeyD.c keys),(7,.d (.arr 150 tRowI 1 0 (i+1))),(8,pInt .i64 (i:Int)),(9,pInt .i64 (s.1.length:Int))]) (fun s=>[(150,.arr tRowI 1 ((s.1++x::s.2).map rowC))]) [150] (fun s=>isrt (ordK keys) (l.take i)=s.1++s.2∧∀y∈s.2,ordK keys x y<0) (fun s=>s.1.length) (isrt (ordK keys) (l.take i),[]) ⟨(List.append_nil _).symm,fun y hy=>absurd hy (List.not_mem_nil)⟩ ?start2 ?round2
        case start2=>
          refine⟨[(150,28)],rfl,rfl,⟨.inl rfl,.inl rfl,⟨rfl,rfl,rfl,rfl,rfl,?_⟩,.inl rfl,PLe.int ?_,trivial⟩,⟨rfl,rfl,rfl,?_⟩,trivial⟩
          · rfl
          · show ((i+1:Nat):Int) - 1=((isrt (ordK keys) (l.take i)).length:Int)
            omega
          · show ((isrt (ordK keys) (l.take i)).map rowC).take i++[rowC x]=(isrt (ordK keys) (l.take i)++[x]).map rowC
            rw[List.take_of_length_le (by rw[List.length_map,hsl];exact Nat.le_refl _),List.map_append];rfl
        case round2=>
          rintro⟨fr,bk⟩ ⟨ho,hb⟩
          have ho:isrt (ordK keys) (l.take i)=fr++bk:=ho
          have hb:∀y∈bk,ordK keys x y<0:=hb
          have hlen:fr.length+bk.length=i:=by rw[← hsl,ho,List.length_append]
          rcases List.eq_nil_or_concat fr with rfl | ⟨fr0,y,efr⟩
          · have hin:isrt (ordK keys) (l.take (i+1))=[]++x::bk:=by
              rw[htk]
              exact isrt_snoc _ x [] bk ho hb fun y ys e=>by simp at e
            ((conv=>whnf);repeat' ((first|(with_reducible first|apply a_|apply b_|apply c_)|((with_reducible first|apply d_|apply e_|apply f_|apply g_);focus first|omega|(simp only[q_]<;>omega))|((with_reducible first|apply i_|apply h_);focus first|omega|(simp only[q_]<;>omega))|((with_reducible apply h_);focus first|decide|kernel_rfl)|refine s_ (by decide) ?_|refine t_ (by decide) ?_|with_reducible first|apply l_|apply m_|apply n_|apply o_|refine p_ (fun _=>?_) (fun _=>?_))<;>(conv=>whnf)))
            all_goals first | (exfalso;omega) | skip
            refine⟨i+1,q,by show l.length - (i+1)<l.length - i;omega,[(150,150)],rfl,rfl,?_,?_⟩<;>repeat' (first|exact rfl|exact trivial|exact Or.inl rfl|refine And.intro ?_ ?_)
            all_goals first | (show _=(isrt (ordK keys) (l.take (i+1))).map rowC;rw[hin];done) | skip
          · rw[List.concat_eq_append] at efr
            subst efr
            have hym:y∈l:=by
              have:y∈isrt (ordK keys) (l.take i):=by rw[ho];simp
              exact List.mem_of_mem_take (isrt_mem this)
            have pk:=p_keyless x y keys (by omega) (fun k hk=>⟨(hcol k hk x hxm).1,(hcol k hk x hxm).2,(hcol k hk y hym).2⟩) (htx x hxm) (htx y hym)
            have hfl:(fr0++[y]).length=fr0.length+1:=by simp
            have hM:(fr0++[y])++x::bk=fr0++y::x::bk:=by simp
            have hml2:(((fr0++[y])++x::bk).map rowC).length=i+1:=by
              rw[List.length_map,List.length_append,List.length_cons];omega
            have j0:0+(((fr0++[y]).length:Nat):Int).toNat=fr0.length+1:=by omega
            have j1:0+((((fr0++[y]).length:Nat):Int) - 1).toNat=fr0.length:=by omega
            have r0:(((fr0++[y])++x::bk).map rowC)[0+(((fr0++[y]).length:Nat):Int).toNat]? = some (rowC x):=by
              rw[j0,hM,List.getElem?_map,List.getElem?_append_right (by omega)];simp
            have r1:(((fr0++[y])++x::bk).map rowC)[0+((((fr0++[y]).length:Nat):Int) - 1).toNat]? = some (rowC y):=by
              rw[j1,hM,List.getElem?_map,List.getElem?_append_right (by omega)];simp
            have r2:∀v,((((fr0++[y])++x::bk).map rowC).set (0+(((fr0++[y]).length:Nat):Int).toNat) v)[0+((((fr0++[y]).length:Nat):Int) - 1).toNat]? = some (rowC y):=fun v=>by
              rw[List.getElem?_set_ne (by omega)];exact r1
            by_cases hv:ordK keys x y<0
            · rw[decide_eq_true hv] at pk
              ((conv=>whnf);repeat' ((first|(with_reducible first|apply a_|apply b_|apply c_)|((with_reducible first|apply d_|apply e_|apply f_|apply g_);focus first|omega|(simp only[q_]<;>omega))|((with_reducible first|apply i_|apply h_);focus first|omega|(simp only[q_]<;>omega))|((with_reducible apply h_);focus first|decide|kernel_rfl)|refine s_ (by decide) ?_|refine t_ (by decide) ?_|(first|refine Row.mk _ r0 ?_|refine Row.mk _ r1 ?_|refine Row.mk _ (r2 _) ?_)|refine r_ pk rfl ?_|with_reducible first|apply l_|apply m_|apply n_|apply o_|refine p_ (fun _=>?_) (fun _=>?_))<;>(conv=>whnf)))
              all_goals first | (exfalso;omega) | skip
              refine⟨(fr0,y::bk),⟨by rw[ho];simp,fun z hz=>?_⟩,by show fr0.length<(fr0++[y]).length;omega,[(150,150)],rfl,rfl,?_,?_⟩
              · rcases List.mem_cons.1 hz with rfl | hz
                · exact hv
                · exact hb z hz
              all_goals repeat' (first|exact rfl|exact trivial|exact Or.inl rfl|refine And.intro ?_ ?_)
              all_goals first|exact PLe.int (show (((fr0++[y]).length:Nat):Int) - 1=((fr0.length:Nat):Int) by omega) | skip
              show ((((fr0++[y])++x::bk).map rowC).set (0+(((fr0++[y]).length:Nat):Int).toNat) (rowC y)).set (0+((((fr0++[y]).length:Nat):Int) - 1).toNat) (rowC x)=(fr0++x::(y::bk)).map rowC
              rw[j0,j1,hM,List.map_append,List.map_cons,List.map_cons]
              have:=swap_set (fr0.map rowC) (bk.map rowC) (rowC x) (rowC y)
              rw[List.length_map] at this
              rw[this];simp
            · rw[decide_eq_false hv] at pk
              have hin:isrt (ordK keys) (l.take (i+1))=(fr0++[y])++x::bk:=by
                rw[htk]
                refine isrt_snoc _ x _ bk ho hb fun z zs e=>?_
                have e2:y=z:=by
                  have:=congrArg List.getLast? e
                  simpa using this
                rw[← e2];exact hv
              ((conv=>whnf);repeat' ((first|(with_reducible first|apply a_|apply b_|apply c_)|((with_reducible first|apply d_|apply e_|apply f_|apply g_);focus first|omega|(simp only[q_]<;>omega))|((with_reducible first|apply i_|apply h_);focus first|omega|(simp only[q_]<;>omega))|((with_reducible apply h_);focus first|decide|kernel_rfl)|refine s_ (by decide) ?_|refine t_ (by decide) ?_|(first|refine Row.mk _ r0 ?_|refine Row.mk _ r1 ?_)|refine r_ pk rfl ?_|with_reducible first|apply l_|apply m_|apply n_|apply o_|refine p_ (fun _=>?_) (fun _=>?_))<;>(conv=>whnf)))
              all_goals first | (exfalso;omega) | skip
              refine⟨i+1,q,by show l.length - (i+1)<l.length - i;omega,[(150,150)],rfl,rfl,?_,?_⟩<;>repeat' (first|exact rfl|exact trivial|exact Or.inl rfl|refine And.intro ?_ ?_)
              all_goals first | (show _=(isrt (ordK keys) (l.take (i+1))).map rowC;rw[hin];done) | skip
      · have e:i=l.length:=by omega
        subst e
        rw[List.take_length]
        ((conv=>whnf);repeat' ((first|(with_reducible first|apply a_|apply b_|apply c_)|((with_reducible first|apply d_|apply e_|apply f_|apply g_);focus first|omega|(simp only[q_]<;>omega))|((with_reducible first|apply i_|apply h_);focus first|omega|(simp only[q_]<;>omega))|((with_reducible apply h_);focus first|decide|kernel_rfl)|refine s_ (by decide) ?_|refine t_ (by decide) ?_|(refine Need.mk (by rw[List.length_map,isrt_len];omega) ?_)|with_reducible first|apply l_|apply m_|apply n_|apply o_|refine p_ (fun _=>?_) (fun _=>?_))<;>(conv=>whnf)))
        refine Ret.eq ?_
        show PV.tup [PV.d (D.c (C.sl 1 (List.take _ (List.drop 0 _)))),_]=_
        rw[List.drop_zero,List.take_of_length_le (by rw[List.length_map,isrt_len];exact Nat.le_refl _)]
  · rw[sortF_no h]
    refine pure_of Tryz.func8 (by rfl) rfl (by kernel_rfl) (by rfl) ?_
    ((conv=>whnf);repeat' ((first|(with_reducible first|apply a_|apply b_|apply c_)|((with_reducible first|apply d_|apply e_|apply f_|apply g_);focus first|omega|(simp only[q_]<;>omega))|((with_reducible first|apply i_|apply h_);focus first|omega|(simp only[q_]<;>omega))|((with_reducible apply h_);focus first|decide|kernel_rfl)|refine s_ (by decide) ?_|refine t_ (by decide) ?_|refine r_ pc rfl ?_|with_reducible first|apply l_|apply m_|apply n_|apply o_|refine p_ (fun _=>?_) (fun _=>?_))<;>(conv=>whnf)))
    all_goals first|exact Ret.le ⟨.inr ⟨⟨1,rfl⟩,.inl rfl⟩,.inl rfl,rfl⟩ | (exfalso;omega)
end
section
open Go.RowKit K
set_option maxRecDepth 100000
end
section
open Go.RowKit K
set_option maxRecDepth 100000
end
section
open Go.RowKit K
set_option maxRecDepth 100000
end
section
open Go.RowKit K
set_option maxRecDepth 100000
set_option maxRecDepth 100000
theorem p_samebag (a b:List RowT) (ha:a.length≤1000) (hb:b.length≤1000) (ha2:∀r∈a,r.length≤1000) (hb2:∀r∈b,r.length≤1000) (h:∀r∈a,howF a r=howF b r) (hl:a.length=b.length):Pure Tryz.prog 12 [rwsV a,rwsV b] (pBool true):=by
  have hma:(a.map rowC).length=a.length:=List.length_map _
  have hmb:(b.map rowC).length=b.length:=List.length_map _
  refine pure_of Tryz.func12 (by rfl) rfl (by kernel_rfl) (by rfl) ?_
  ((conv=>whnf);repeat' ((first|(with_reducible first|apply a_|apply b_|apply c_)|((with_reducible first|apply d_|apply e_|apply f_|apply g_);focus first|omega|(simp only[q_]<;>omega))|((with_reducible first|apply i_|apply h_);focus first|omega|(simp only[q_]<;>omega))|((with_reducible apply h_);focus first|decide|kernel_rfl)|refine s_ (by decide) ?_|refine t_ (by decide) ?_|with_reducible first|apply l_|apply m_|apply n_|apply o_|refine p_ (fun _=>?_) (fun _=>?_))<;>(conv=>whnf)))
  refine LoopC.mk Nat (fun k=>[(0,rwsV a),(1,rwsV b),(5,pInt .i64 (k:Int))]) (fun _=>[]) [] (fun k=>k≤a.length) (fun k=>a.length - k) 0 (Nat.zero_le _) ?start ?round
  case start=>exact⟨[],rfl,rfl,⟨.inl rfl,.inl rfl,.inl rfl,trivial⟩,trivial⟩
  case round=>
    intro k hk
    have hk:k≤a.length:=hk
    by_cases q:k<a.length
    · have p1:=p_howoften a a[k] (by omega) fun r hr=>by have:=ha2 r hr;omega
      have p2:=p_howoften b a[k] (by omega) fun r hr=>by have:=hb2 r hr;omega
      rw[← h _ (List.getElem_mem q)] at p2
      ((conv=>whnf);repeat' ((first|(with_reducible first|apply a_|apply b_|apply c_)|((with_reducible first|apply d_|apply e_|apply f_|apply g_);focus first|omega|(simp only[q_]<;>omega))|((with_reducible first|apply i_|apply h_);focus first|omega|(simp only[q_]<;>omega))|((with_reducible apply h_);focus first|decide|kernel_rfl)|refine s_ (by decide) ?_|refine t_ (by decide) ?_|(refine Idx.mapI (f:=rowC) k rfl q ?_)|refine r_ p1 rfl ?_|refine r_ p2 rfl ?_|with_reducible first|apply l_|apply m_|apply n_|apply o_|refine p_ (fun _=>?_) (fun _=>?_))<;>(conv=>whnf)))
      all_goals first
        | exact⟨k+1,q,by omega,[],rfl,rfl,⟨.inl rfl,.inl rfl,PLe.int (by omega),trivial⟩,trivial⟩
        | (exfalso;omega)
        | skip
    · ((conv=>whnf);repeat' ((first|(with_reducible first|apply a_|apply b_|apply c_)|((with_reducible first|apply d_|apply e_|apply f_|apply g_);focus first|omega|(simp only[q_]<;>omega))|((with_reducible first|apply i_|apply h_);focus first|omega|(simp only[q_]<;>omega))|((with_reducible apply h_);focus first|decide|kernel_rfl)|refine s_ (by decide) ?_|refine t_ (by decide) ?_|with_reducible first|apply l_|apply m_|apply n_|apply o_|refine p_ (fun _=>?_) (fun _=>?_))<;>(conv=>whnf)))
      all_goals first|exact Ret.bool (by rw[hma,hmb,hl];simp) | (exfalso;omega) | skip
end
section
open Go.RowKit K
set_option maxRecDepth 100000
set_option maxRecDepth 100000
theorem sortF_small (l:List RowT) (keys:List KeyD):(sortF l keys).1.length≤40∧∀r∈(sortF l keys).1,r.length≤16:=by
  by_cases h:(sortF l keys).2=0
  · obtain⟨h1,_,_,e⟩:=sortF_ok h
    rw[e]
    exact rows_small (rowsChk_isrt h1)
  · rw[sortF_no h]
    exact⟨Nat.zero_le _,fun r h=>by cases h⟩
theorem law_OrderTells (l:List RowT) (hl:okRws l) (keys:List KeyD) (hk:okSl (Tryz.prog.bytesOf 38) KeyD.ok keys):Pure Tryz.prog 3 [rwsV l,slV 2 KeyD.c keys] (pBool true):=by
  have p1:=p_Sort l keys
  have p2:=p_sortof l hl keys
  have s1:=same_small (sortF_small l keys)
  refine pure_of Tryz.func3 (by rfl) rfl (by kernel_rfl) (by rfl) ?_
  ((conv=>whnf);repeat' ((first|(with_reducible first|apply a_|apply b_|apply c_)|((with_reducible first|apply d_|apply e_|apply f_|apply g_);focus first|omega|(simp only[q_]<;>omega))|((with_reducible first|apply i_|apply h_);focus first|omega|(simp only[q_]<;>omega))|((with_reducible apply h_);focus first|decide|kernel_rfl)|refine s_ (by decide) ?_|refine t_ (by decide) ?_|refine r_ p_bagbegun rfl ?_|refine r_ p1 rfl ?_|refine r_ p2 rfl ?_|refine r_ s1 rfl ?_|with_reducible first|apply l_|apply m_|apply n_|apply o_|refine p_ (fun _=>?_) (fun _=>?_))<;>(conv=>whnf)))
  all_goals first|exact Ret.bool rfl | (exact Ret.bool (by simp)) | skip
theorem law_OrderFilter (l:List RowT) (hl:okRws l) (keys:List KeyD) (hk:okSl (Tryz.prog.bytesOf 38) KeyD.ok keys) (cols:List (List UInt8)) (hc:okSl (Tryz.prog.bytesOf 9) okText cols) (e:List NodeD) (he:okNs e):Pure Tryz.prog 6 [rwsV l,slV 2 KeyD.c keys,slV 1 eText cols,slV 6 NodeD.c e] (pBool true):=by
  have hin:=okRws_in hl
  have hne:=okNs_hn he
  have p1:=p_Sort l keys
  have p3:=p_Filter l hin cols e hne
  have p4:=p_Sort (filtF l cols e).1 keys
  by_cases h:(sortF l keys).2=0
  · obtain⟨h1,h2,h3,e1⟩:=sortF_ok h
    rw[h,e1] at p1
    have p2:=p_Filter (isrt (ordK keys) l) (fun r hr=>hin r (isrt_mem hr)) cols e hne
    by_cases hg:(filtF (isrt (ordK keys) l) cols e).2=0
    · obtain⟨g1,g2⟩:=sort_filter h hg
      rw[hg] at p2
      rw[g1] at p3
      rw[g2] at p4
      have hs:=filtF_sub (isrt (ordK keys) l) cols e
      have hsm:=rows_small (rowsChk_isrt (f:=ordK keys) h1)
      have s1:=same_small (a:=(filtF (isrt (ordK keys) l) cols e).1) ⟨by have:=hs.2;have:=hsm.1;omega,fun r hr=>hsm.2 r (hs.1 r hr)⟩
      refine pure_of Tryz.func6 (by rfl) rfl (by kernel_rfl) (by rfl) ?_
      ((conv=>whnf);repeat' ((first|(with_reducible first|apply a_|apply b_|apply c_)|((with_reducible first|apply d_|apply e_|apply f_|apply g_);focus first|omega|(simp only[q_]<;>omega))|((with_reducible first|apply i_|apply h_);focus first|omega|(simp only[q_]<;>omega))|((with_reducible apply h_);focus first|decide|kernel_rfl)|refine s_ (by decide) ?_|refine t_ (by decide) ?_|refine r_ p_bagbegun rfl ?_|refine r_ p1 rfl ?_|refine r_ p2 rfl ?_|refine r_ p3 rfl ?_|refine r_ p4 rfl ?_|refine r_ s1 rfl ?_|with_reducible first|apply l_|apply m_|apply n_|apply o_|refine p_ (fun _=>?_) (fun _=>?_))<;>(conv=>whnf)))
      all_goals first|exact Ret.bool rfl | (exfalso;omega) | skip
    · refine pure_of Tryz.func6 (by rfl) rfl (by kernel_rfl) (by rfl) ?_
      ((conv=>whnf);repeat' ((first|(with_reducible first|apply a_|apply b_|apply c_)|((with_reducible first|apply d_|apply e_|apply f_|apply g_);focus first|omega|(simp only[q_]<;>omega))|((with_reducible first|apply i_|apply h_);focus first|omega|(simp only[q_]<;>omega))|((with_reducible apply h_);focus first|decide|kernel_rfl)|refine s_ (by decide) ?_|refine t_ (by decide) ?_|refine r_ p_bagbegun rfl ?_|refine r_ p1 rfl ?_|refine r_ p2 rfl ?_|refine r_ p3 rfl ?_|refine r_ p4 rfl ?_|with_reducible first|apply l_|apply m_|apply n_|apply o_|refine p_ (fun _=>?_) (fun _=>?_))<;>(conv=>whnf)))
      all_goals first|exact Ret.bool rfl | (exfalso;omega) | (refine Ret.bool ?_;first|rfl|simp) | skip
  · have e1:=sortF_no h
    rw[e1] at p1
    have p2:=p_Filter [] (fun r hr=>absurd hr List.not_mem_nil) cols e hne
    refine pure_of Tryz.func6 (by rfl) rfl (by kernel_rfl) (by rfl) ?_
    ((conv=>whnf);repeat' ((first|(with_reducible first|apply a_|apply b_|apply c_)|((with_reducible first|apply d_|apply e_|apply f_|apply g_);focus first|omega|(simp only[q_]<;>omega))|((with_reducible first|apply i_|apply h_);focus first|omega|(simp only[q_]<;>omega))|((with_reducible apply h_);focus first|decide|kernel_rfl)|refine s_ (by decide) ?_|refine t_ (by decide) ?_|refine r_ p_bagbegun rfl ?_|refine r_ p1 rfl ?_|refine r_ p2 rfl ?_|refine r_ p3 rfl ?_|refine r_ p4 rfl ?_|with_reducible first|apply l_|apply m_|apply n_|apply o_|refine p_ (fun _=>?_) (fun _=>?_))<;>(conv=>whnf)))
    all_goals first|exact Ret.bool rfl | (exfalso;omega) | (refine Ret.bool ?_;first|rfl|simp[h]) | skip
theorem law_OrderMoves (l:List RowT) (hl:okRws l) (keys:List KeyD) (hk:okSl (Tryz.prog.bytesOf 38) KeyD.ok keys):Pure Tryz.prog 4 [rwsV l,slV 2 KeyD.c keys] (pBool true):=by
  have p1:=p_Sort l keys
  by_cases h:(sortF l keys).2=0
  · obtain⟨h1,h2,h3,e1⟩:=sortF_ok h
    rw[h,e1] at p1
    have hr1:=rowsChk_isrt (f:=ordK keys) h1
    have p2:=p_Sort (isrt (ordK keys) l) keys
    rw[sort_again h] at p2
    have hsm:=rows_small h1
    have hsm2:=rows_small hr1
    have s1:=same_small hsm2
    have hlen:(isrt (ordK keys) l).length=l.length:=isrt_len l
    have sb:=p_samebag l (isrt (ordK keys) l) (by omega) (by omega) (fun r hr=>by have:=hsm.2 r hr;omega) (fun r hr=>by have:=hsm2.2 r hr;omega) (fun r _=>(isrt_count (ordK_ord keys) (fun x=>rowEqB x r) l).symm) hlen.symm
    have hml:((isrt (ordK keys) l).map rowC).length=(isrt (ordK keys) l).length:=List.length_map _
    have hcol:∀k∈keys,∀r∈isrt (ordK keys) l,0≤k.Col∧k.Col<r.length:=fun k hk r hr=>(places_cols h1).1 (keysBad_all.1 h3 k hk) r (isrt_mem hr)
    have hso:=srt_isrt (ordK_ord keys) l
    have htx:∀r∈isrt (ordK keys) l,∀v∈r,okText v.S:=fun r hr v hv=>((hl.2 r (isrt_mem hr)).2 v hv).2.2
    generalize hM:isrt (ordK keys) l=m at *
    refine pure_of Tryz.func4 (by rfl) rfl (by kernel_rfl) (by rfl) ?_
    ((conv=>whnf);repeat' ((first|(with_reducible first|apply a_|apply b_|apply c_)|((with_reducible first|apply d_|apply e_|apply f_|apply g_);focus first|omega|(simp only[q_]<;>omega))|((with_reducible first|apply i_|apply h_);focus first|omega|(simp only[q_]<;>omega))|((with_reducible apply h_);focus first|decide|kernel_rfl)|refine s_ (by decide) ?_|refine t_ (by decide) ?_|refine r_ p_bagbegun rfl ?_|refine r_ p1 rfl ?_|with_reducible first|apply l_|apply m_|apply n_|apply o_|refine p_ (fun _=>?_) (fun _=>?_))<;>(conv=>whnf)))
    all_goals first | (exfalso;omega) | skip
    refine LoopC.mk Nat (fun i=>[(0,rwsV l),(1,slV 2 KeyD.c keys),(5,rwsV m),(7,pInt .i64 ((i+1:Nat):Int))]) (fun _=>[]) [] (fun i=>i≤m.length) (fun i=>m.length - i) 0 (Nat.zero_le _) ?start ?round
    case start=>exact⟨[],rfl,rfl,⟨.inl rfl,.inl rfl,.inl rfl,.inl rfl,trivial⟩,trivial⟩
    case round=>
      intro i hi
      have hi:i≤m.length:=hi
      by_cases q:i+1<m.length
      · have hx:¬ordK keys m[i+1] m[i]<0:=List.pairwise_iff_getElem.1 hso i (i+1) (by omega) q (by omega)
        have pk:=p_keyless m[i+1] m[i] keys (by omega) (fun k hk=>⟨(hcol k hk _ (List.getElem_mem q)).1,(hcol k hk _ (List.getElem_mem q)).2,(hcol k hk m[i] (List.getElem_mem _)).2⟩) (htx _ (List.getElem_mem q)) (htx m[i] (List.getElem_mem _))
        rw[decide_eq_false hx] at pk
        have ei:((i+1:Nat):Int) - 1=((i:Nat):Int):=by omega
        ((conv=>whnf);repeat' ((first|(with_reducible first|apply a_|apply b_|apply c_)|((with_reducible first|apply d_|apply e_|apply f_|apply g_);focus first|omega|(simp only[q_]<;>omega))|((with_reducible first|apply i_|apply h_);focus first|omega|(simp only[q_]<;>omega))|((with_reducible apply h_);focus first|decide|kernel_rfl)|refine s_ (by decide) ?_|refine t_ (by decide) ?_|(first|refine Idx.mapI (f:=rowC) (i+1) rfl q ?_|refine Idx.mapI (f:=rowC) i ei (Nat.lt_of_succ_lt q) ?_)|refine r_ pk rfl ?_|with_reducible first|apply l_|apply m_|apply n_|apply o_|refine p_ (fun _=>?_) (fun _=>?_))<;>(conv=>whnf)))
        all_goals first
          | (exfalso;omega)
          | exact⟨i+1,Nat.le_of_lt q,by show m.length - (i+1)<m.length - i;omega,[],rfl,rfl,⟨.inl rfl,.inl rfl,.inl rfl,.inl rfl,trivial⟩,trivial⟩
          | skip
      · ((conv=>whnf);repeat' ((first|(with_reducible first|apply a_|apply b_|apply c_)|((with_reducible first|apply d_|apply e_|apply f_|apply g_);focus first|omega|(simp only[q_]<;>omega))|((with_reducible first|apply i_|apply h_);focus first|omega|(simp only[q_]<;>omega))|((with_reducible apply h_);focus first|decide|kernel_rfl)|refine s_ (by decide) ?_|refine t_ (by decide) ?_|refine r_ p2 rfl ?_|refine r_ s1 rfl ?_|refine r_ sb rfl ?_|with_reducible first|apply l_|apply m_|apply n_|apply o_|refine p_ (fun _=>?_) (fun _=>?_))<;>(conv=>whnf)))
        all_goals first|exact Ret.bool rfl | (exfalso;omega) | skip
  · have z1:((sortF l keys).1.map rowC).length=0:=by rw[sortF_no h];rfl
    refine pure_of Tryz.func4 (by rfl) rfl (by kernel_rfl) (by rfl) ?_
    ((conv=>whnf);repeat' ((first|(with_reducible first|apply a_|apply b_|apply c_)|((with_reducible first|apply d_|apply e_|apply f_|apply g_);focus first|omega|(simp only[q_]<;>omega))|((with_reducible first|apply i_|apply h_);focus first|omega|(simp only[q_]<;>omega))|((with_reducible apply h_);focus first|decide|kernel_rfl)|refine s_ (by decide) ?_|refine t_ (by decide) ?_|refine r_ p_bagbegun rfl ?_|refine r_ p1 rfl ?_|with_reducible first|apply l_|apply m_|apply n_|apply o_|refine p_ (fun _=>?_) (fun _=>?_))<;>(conv=>whnf)))
    all_goals first|exact Ret.bool rfl | (exfalso;omega) | (refine Ret.bool ?_;first|rfl|simp[z1]) | skip
theorem keys_cut (keys:List KeyD) (i:Nat) (h:i<keys.length):[keys[i]].map KeyD.c=List.take ((((i:Nat):Int)+1).toNat - ((i:Nat):Int).toNat) (List.drop ((i:Nat):Int).toNat (keys.map KeyD.c)):=by
  have e1:(((i:Nat):Int)+1).toNat - ((i:Nat):Int).toNat=1:=by omega
  rw[e1,Int.toNat_natCast,← List.map_drop,List.drop_eq_getElem_cons h];rfl
theorem law_OrderKeys (l:List RowT) (hl:okRws l) (keys:List KeyD) (hk:okSl (Tryz.prog.bytesOf 38) KeyD.ok keys):Pure Tryz.prog 5 [rwsV l,slV 2 KeyD.c keys] (pBool true):=by
  have p1:=p_Sort l keys
  have hkl:(keys.map KeyD.c).length=keys.length:=List.length_map _
  by_cases h:(sortF l keys).2=0
  · obtain⟨h1,h2,h3,e1⟩:=sortF_ok h
    rw[h,e1] at p1
    have s1:=same_small (rows_small (rowsChk_isrt (f:=ordK keys) h1))
    refine pure_of Tryz.func5 (by rfl) rfl (by kernel_rfl) (by rfl) ?_
    ((conv=>whnf);repeat' ((first|(with_reducible first|apply a_|apply b_|apply c_)|((with_reducible first|apply d_|apply e_|apply f_|apply g_);focus first|omega|(simp only[q_]<;>omega))|((with_reducible first|apply i_|apply h_);focus first|omega|(simp only[q_]<;>omega))|((with_reducible apply h_);focus first|decide|kernel_rfl)|refine s_ (by decide) ?_|refine t_ (by decide) ?_|refine r_ p_bagbegun rfl ?_|refine r_ p1 rfl ?_|with_reducible first|apply l_|apply m_|apply n_|apply o_|refine p_ (fun _=>?_) (fun _=>?_))<;>(conv=>whnf)))
    all_goals first | (exfalso;omega) | skip
    refine LoopC.mk Nat (fun i=>[(0,rwsV l),(1,slV 2 KeyD.c keys),(5,rwsV (isrt (ordK keys) l)),(7,rwsV (isrt (ordK (keys.drop i)) l)),(8,pInt .i64 (((i:Nat):Int) - 1))]) (fun _=>[]) [] (fun i=>i≤keys.length) (fun i=>i) keys.length (Nat.le_refl _) ?start ?round
    case start=>
      rw[List.drop_length,isrt_none]
      exact⟨[],rfl,rfl,⟨.inl rfl,.inl rfl,.inl rfl,.inl rfl,PLe.int (by rw[hkl]),trivial⟩,trivial⟩
    case round=>
      intro i hi
      have hi:i≤keys.length:=hi
      cases i with
      | zero=>
        rw[List.drop_zero]
        ((conv=>whnf);repeat' ((first|(with_reducible first|apply a_|apply b_|apply c_)|((with_reducible first|apply d_|apply e_|apply f_|apply g_);focus first|omega|(simp only[q_]<;>omega))|((with_reducible first|apply i_|apply h_);focus first|omega|(simp only[q_]<;>omega))|((with_reducible apply h_);focus first|decide|kernel_rfl)|refine s_ (by decide) ?_|refine t_ (by decide) ?_|refine r_ s1 rfl ?_|with_reducible first|apply l_|apply m_|apply n_|apply o_|refine p_ (fun _=>?_) (fun _=>?_))<;>(conv=>whnf)))
        all_goals first|exact Ret.bool rfl | (exfalso;omega) | skip
      | succ i=>
        have q:i<keys.length:=hi
        have p2:=p_Sort (isrt (ordK (keys.drop (i+1))) l) [keys[i]]
        rw[sort_next h (List.getElem_mem q),← List.drop_eq_getElem_cons q] at p2
        have e0:(((i+1:Nat):Int) - 1)=((i:Nat):Int):=by omega
        unfold slV at p2
        rw[keys_cut keys i q,← e0] at p2
        ((conv=>whnf);repeat' ((first|(with_reducible first|apply a_|apply b_|apply c_)|((with_reducible first|apply d_|apply e_|apply f_|apply g_);focus first|omega|(simp only[q_]<;>omega))|((with_reducible first|apply i_|apply h_);focus first|omega|(simp only[q_]<;>omega))|((with_reducible apply h_);focus first|decide|kernel_rfl)|refine s_ (by decide) ?_|refine t_ (by decide) ?_|refine r_ p2 rfl ?_|with_reducible first|apply l_|apply m_|apply n_|apply o_|refine p_ (fun _=>?_) (fun _=>?_))<;>(conv=>whnf)))
        all_goals first
          | (exfalso;omega)
          | exact⟨i,by show i≤_;omega,Nat.lt_succ_self i,[],rfl,rfl,⟨.inl rfl,.inl rfl,.inl rfl,.inl rfl,PLe.int (by omega),trivial⟩,trivial⟩
          | skip
  · have z1:((sortF l keys).1.map rowC).length=0:=by rw[sortF_no h];rfl
    refine pure_of Tryz.func5 (by rfl) rfl (by kernel_rfl) (by rfl) ?_
    ((conv=>whnf);repeat' ((first|(with_reducible first|apply a_|apply b_|apply c_)|((with_reducible first|apply d_|apply e_|apply f_|apply g_);focus first|omega|(simp only[q_]<;>omega))|((with_reducible first|apply i_|apply h_);focus first|omega|(simp only[q_]<;>omega))|((with_reducible apply h_);focus first|decide|kernel_rfl)|refine s_ (by decide) ?_|refine t_ (by decide) ?_|refine r_ p_bagbegun rfl ?_|refine r_ p1 rfl ?_|with_reducible first|apply l_|apply m_|apply n_|apply o_|refine p_ (fun _=>?_) (fun _=>?_))<;>(conv=>whnf)))
    all_goals first|exact Ret.bool rfl | (exfalso;omega) | (refine Ret.bool ?_;first|rfl|simp[z1]) | skip
end
end Go.Proofs.YthfpmnojahoelaaGreatDoor.Pm
