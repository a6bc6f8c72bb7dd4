/- Parts of the proof, one behind the other: PtSeek PtAt PtPairs PtValid PtData PtChk PtDel PtDel2 PtDel3 PtFind PtStd PmClone PtClone PtOwn PtTree PtTree2. Conditions: none beyond what each theorem says. -/
import Derived.Test.YthejollbijglcaaZ4
set_option linter.unusedVariables false
set_option linter.unusedSimpArgs false
section
namespace Go.Proofs.Ythejollbijglcaa.Pm
open Go.RowKit K
set_option maxRecDepth 100000
set_option maxRecDepth 100000
open Tr
namespace Tr
set_option maxRecDepth 100000 in
theorem cmpstring_any (a b:ByteArray) (w:World):Calls Try.prog 68 #[.string a,.string b] w fun e w'=>e=.returned (.int .i64 (Lib.compareBytes a.data.toList b.data.toList))∧w=w':=by
 go_enter Try.func68,Try.ntmps68
 go_wp2
 rw[run_callFunc_extern Try.func81 (by kernel_rfl) (by kernel_rfl) (by kernel_rfl) (e:=Extern.BytealgCompare.compare) (by kernel_rfl),Lib.run_compareString]
 simp only[Result.andThen]
 rw[Oper.upon_value]
 go_wp2
 go_ret
 exact⟨rfl,rfl⟩
theorem cmp_string (a b:ByteArray) (w:World):Calls Try.prog 53 #[.string a,.string b] w fun e w'=>e=.returned (.int .i64 (Lib.compareBytes a.data.toList b.data.toList))∧w=w':=by
 go_enter Try.func53,Try.ntmps53
 go_wp2_with (go_at_call 68;refine (cmpstring_any _ _ _).mono ?_;rintro e w' ⟨rfl,rfl⟩)
 go_ret
 exact⟨rfl,rfl⟩
end Tr
theorem p_cmpstr (a b:List UInt8):Pure Try.prog 53 [pStr (tx a),pStr (tx b)] (pInt .i64 (Lib.compareBytes a b)):=by
 refine pure_hand (vs:=[.string (tx a),.string (tx b)]) ⟨_,Try.func53,by rfl,by rfl⟩ fun w hG=>?_
 refine (cmp_string (tx a) (tx b) w).mono ?_
 rintro e w' ⟨rfl,rfl⟩
 exact⟨_,rfl,Below.refl _ _,fun F _=>rep_int _ _⟩
abbrev prV (p:PairD):PV:=.agg (p.c.map D.c)
abbrev lfV (l:List PairD):PV:=.d (.c (.sl 2 (l.map PairD.c)))
abbrev fnP (f:FuncId):PV:=.d (.c (.v (.func (.func f) #[] #[])))
theorem p_seek1 (p:PairD) (key:List UInt8):Pure Try.prog 52 [prV p,pStr (tx key)] (pInt .i64 (Lib.compareBytes p.Key key)):=by
 have pc:=p_cmpstr p.Key key
 refine pure_of Try.func52 (by rfl) rfl (by kernel_rfl) (by rfl) ?_
 ((conv=>whnf);repeat' ((first|(with_reducible first|apply a_|apply b_|apply c_)|((with_reducible first|apply d_|apply e_|apply f_|apply g_);focus first|omega|(simp only[q_]<;>omega))|((with_reducible first|apply i_|apply h_);focus first|omega|(simp only[q_]<;>omega))|((with_reducible apply h_);focus first|decide|kernel_rfl)|refine s_ (by decide) ?_|refine t_ (by decide) ?_|refine r_ pc rfl ?_|with_reducible first|apply l_|apply m_|apply n_|apply o_|refine p_ (fun _=>?_) (fun _=>?_))<;>(conv=>whnf)))
 all_goals first|exact Ret.int rfl|exact Ret.mk rfl
def Asc (l:List PairD):Prop:=l.Pairwise fun a b=>a.Key<b.Key
def posF (l:List PairD) (key:List UInt8):Nat:=(l.filter fun q=>decide (ltT q.Key key)).length
theorem Asc.lt {l:List PairD} (h:Asc l) {i j:Nat} (hj:j<l.length) (hi:i<j):(l[i]'(by omega)).Key<l[j].Key:=List.pairwise_iff_getElem.1 h i j (by omega) hj hi
theorem pos_at {l:List PairD} {key:List UInt8} {i:Nat} (h1:∀m (h:m<l.length),m<i→l[m].Key<key) (h2:∀m (h:m<l.length),i≤m→¬l[m].Key<key) (hi:i≤l.length):l.filter (fun q=>decide (ltT q.Key key))=l.take i:=by
 conv=>lhs;rw[← List.take_append_drop i l]
 rw[List.filter_append,List.filter_eq_self.2,List.filter_eq_nil_iff.2,List.append_nil]
 ·intro q hq
  obtain⟨m,hm,rfl⟩:=List.getElem_of_mem hq
  rw[List.length_drop] at hm
  rw[List.getElem_drop]
  have:=h2 (i+m) (by omega) (by omega)
  simpa using this
 ·intro q hq
  obtain⟨m,hm,rfl⟩:=List.getElem_of_mem hq
  rw[List.length_take] at hm
  rw[List.getElem_take]
  have:=h1 m (by omega) (by omega)
  simpa using this
theorem posF_at {l:List PairD} {key:List UInt8} {i:Nat} (h1:∀m (h:m<l.length),m<i→l[m].Key<key) (h2:∀m (h:m<l.length),i≤m→¬l[m].Key<key) (hi:i≤l.length):posF l key=i:=by
 unfold posF
 rw[pos_at h1 h2 hi,List.length_take];omega
def hitF (l:List PairD) (key:List UInt8):Bool:=l.any fun q=>decide (q.Key=key)
theorem hit_at {l:List PairD} (ha:Asc l) {key:List UInt8} {i:Nat} (h1:∀m (h:m<l.length),m<i→l[m].Key<key) (h2:∀m (h:m<l.length),i≤m→¬l[m].Key<key):hitF l key=decide (∃h:i<l.length,l[i].Key=key):=by
 unfold hitF
 rw[Bool.eq_iff_iff,List.any_eq_true,decide_eq_true_iff]
 constructor
 ·rintro⟨q,hq,he⟩
  have he:=of_decide_eq_true he
  obtain⟨m,hm,rfl⟩:=List.getElem_of_mem hq
  rcases Nat.lt_trichotomy m i with h | h | h
  ·have:=h1 m hm h
   rw[he] at this
   exact absurd this (lt_irr _)
  ·subst h;exact⟨hm,he⟩
  ·have h3:=ha.lt hm h
   rw[he] at h3
   exact absurd h3 (h2 i (by omega) (Nat.le_refl _))
 ·rintro⟨h,he⟩
  exact⟨_,List.getElem_mem h,decide_eq_true he⟩
theorem p_bsearch (l:List PairD) (ha:Asc l) (hl:l.length≤1000) (key:List UInt8):Pure Try.prog 51 [lfV l,pStr (tx key),fnP 52] (.tup [pInt .i64 (posF l key),pBool (hitF l key)]):=by
 refine pure_of Try.func51 (by rfl) rfl (by kernel_rfl) (by rfl) ?_
 ((conv=>whnf);repeat' ((first|(with_reducible first|apply a_|apply b_|apply c_)|((with_reducible first|apply d_|apply e_|apply f_|apply g_);focus first|omega|(simp only[q_]<;>omega))|((with_reducible first|apply i_|apply h_);focus first|omega|(simp only[q_]<;>omega))|((with_reducible apply h_);focus first|decide|kernel_rfl)|refine s_ (by decide) ?_|refine t_ (by decide) ?_|with_reducible first|apply l_|apply m_|apply n_|apply o_|refine p_ (fun _=>?_) (fun _=>?_))<;>(conv=>whnf)))
 refine LoopC.mk (Nat×Nat) (fun s=>[(0,lfV l),(1,pStr (tx key)),(2,fnP 52),(8,pInt .i64 l.length),(9,pInt .i64 s.1),(10,pInt .i64 s.2)]) (fun _=>[]) []
  (fun s=>s.1≤s.2∧s.2≤l.length∧(∀m (h:m<l.length),m<s.1→l[m].Key<key)∧∀m (h:m<l.length),s.2≤m→¬l[m].Key<key) (fun s=>s.2 - s.1) (0,l.length) ⟨Nat.zero_le _,Nat.le_refl _,fun m _ h=>absurd h (Nat.not_lt_zero m),fun m h g=>absurd h (Nat.not_lt.2 g)⟩ ?start ?round
 case start=>exact⟨[],rfl,rfl,⟨.inl rfl,.inl rfl,.inl rfl,PLe.int (by rw[List.length_map]),.inl rfl,PLe.int (by rw[List.length_map]),trivial⟩,trivial⟩
 case round=>
  rintro⟨i,j⟩ ⟨h1,h2,h3,h4⟩
  have h1:i≤j:=h1
  have h2:j≤l.length:=h2
  have h3:∀m (h:m<l.length),m<i→l[m].Key<key:=h3
  have h4:∀m (h:m<l.length),j≤m→¬l[m].Key<key:=h4
  by_cases hij:i<j
  ·obtain⟨m,hm⟩:∃m,m=(i+j) / 2:=⟨_,rfl⟩
   have hfd:((i:Int)+(j:Int)).fdiv (2^min (Int.toNat 1) IntKind.u64.bits)=(m:Int):=by
    show ((i:Int)+(j:Int)).fdiv 2=_
    rw[Int.fdiv_eq_ediv_of_nonneg _ (by decide)];omega
   have hml:m<l.length:=by omega
   have ps:=p_seek1 l[m] key
   have hci:=(cmp_iff l[m].Key key).1
   by_cases hc:l[m].Key<key
   ·have hcb:=hci.2 hc
    ((conv=>whnf);repeat' ((first|(with_reducible first|apply a_|apply b_|apply c_)|((with_reducible first|apply d_|apply e_|apply f_|apply g_);focus first|omega|(simp only[q_]<;>omega))|((with_reducible first|apply i_|apply h_);focus first|omega|(simp only[q_]<;>omega))|((with_reducible apply h_);focus first|decide|kernel_rfl)|refine s_ (by decide) ?_|refine t_ (by decide) ?_|(refine Idx.mapI (f:=PairD.c) m hfd hml ?_)|refine r_ ps rfl ?_|with_reducible first|apply l_|apply m_|apply n_|apply o_|refine p_ (fun _=>?_) (fun _=>?_))<;>(conv=>whnf)))
    all_goals first
     | (exfalso;omega)
     | skip
    refine⟨(m+1,j),⟨by show m+1≤j;omega,h2,fun k hk hkm=>?_,h4⟩,by show j - (m+1)<j - i;omega,[],rfl,rfl,⟨.inl rfl,.inl rfl,.inl rfl,.inl rfl,PLe.int (by dsimp only;omega),.inl rfl,trivial⟩,trivial⟩
    have hkm:k<m+1:=hkm
    rcases Nat.lt_or_ge k m with h | h
    ·exact lt_tr (ha.lt hml h) hc
    ·have:k=m:=by omega
     subst this;exact hc
   ·have hcb:¬Lib.compareBytes l[m].Key key<0:=fun h=>hc (hci.1 h)
    ((conv=>whnf);repeat' ((first|(with_reducible first|apply a_|apply b_|apply c_)|((with_reducible first|apply d_|apply e_|apply f_|apply g_);focus first|omega|(simp only[q_]<;>omega))|((with_reducible first|apply i_|apply h_);focus first|omega|(simp only[q_]<;>omega))|((with_reducible apply h_);focus first|decide|kernel_rfl)|refine s_ (by decide) ?_|refine t_ (by decide) ?_|(refine Idx.mapI (f:=PairD.c) m hfd hml ?_)|refine r_ ps rfl ?_|with_reducible first|apply l_|apply m_|apply n_|apply o_|refine p_ (fun _=>?_) (fun _=>?_))<;>(conv=>whnf)))
    all_goals first
     | (exfalso;omega)
     | skip
    refine⟨(i,m),⟨by show i≤m;omega,by show m≤l.length;omega,h3,fun k hk hkm=>?_⟩,by show m - i<j - i;omega,[],rfl,rfl,⟨.inl rfl,.inl rfl,.inl rfl,.inl rfl,.inl rfl,PLe.int hfd,trivial⟩,trivial⟩
    have hkm:m≤k:=hkm
    intro hlt
    rcases Nat.lt_or_ge m k with h | h
    ·exact hc (lt_tr (ha.lt hk h) hlt)
    ·have:k=m:=by omega
     subst this;exact hc hlt
  ·have e:i=j:=by omega
   subst e
   rw[posF_at h3 h4 h2,hit_at ha h3 h4]
   by_cases hil:i<l.length
   ·have ps:=p_seek1 l[i] key
    have hci:=(cmp_iff l[i].Key key).2
    have hd:decide (∃h:i<l.length,l[i].Key=key)=decide (Lib.compareBytes l[i].Key key=0):=by
     rw[decide_eq_decide]
     exact⟨fun ⟨h,e⟩=>hci.2 e,fun h=>⟨hil,hci.1 h⟩⟩
    rw[hd]
    ((conv=>whnf);repeat' ((first|(with_reducible first|apply a_|apply b_|apply c_)|((with_reducible first|apply d_|apply e_|apply f_|apply g_);focus first|omega|(simp only[q_]<;>omega))|((with_reducible first|apply i_|apply h_);focus first|omega|(simp only[q_]<;>omega))|((with_reducible apply h_);focus first|decide|kernel_rfl)|refine s_ (by decide) ?_|refine t_ (by decide) ?_|(refine Idx.mapI (f:=PairD.c) i rfl hil ?_)|refine r_ ps rfl ?_|with_reducible first|apply l_|apply m_|apply n_|apply o_|refine p_ (fun _=>?_) (fun _=>?_))<;>(conv=>whnf)))
    all_goals first
     | (exfalso;omega)
     | exact Ret.mk rfl
     | skip
   ·have hd:decide (∃h:i<l.length,l[i].Key=key)=false:=decide_eq_false fun ⟨h,_⟩=>hil h
    rw[hd]
    ((conv=>whnf);repeat' ((first|(with_reducible first|apply a_|apply b_|apply c_)|((with_reducible first|apply d_|apply e_|apply f_|apply g_);focus first|omega|(simp only[q_]<;>omega))|((with_reducible first|apply i_|apply h_);focus first|omega|(simp only[q_]<;>omega))|((with_reducible apply h_);focus first|decide|kernel_rfl)|refine s_ (by decide) ?_|refine t_ (by decide) ?_|with_reducible first|apply l_|apply m_|apply n_|apply o_|refine p_ (fun _=>?_) (fun _=>?_))<;>(conv=>whnf)))
    all_goals first
     | (exfalso;omega)
     | exact Ret.mk rfl
     | skip
theorem p_seek (l:List PairD) (ha:Asc l) (hl:l.length≤1000) (key:List UInt8):Pure Try.prog 32 [lfV l,pStr (tx key)] (.tup [pInt .i64 (posF l key),pBool (hitF l key)]):=by
 have pb:=p_bsearch l ha hl key
 refine pure_of Try.func32 (by rfl) rfl (by kernel_rfl) (by rfl) ?_
 ((conv=>whnf);repeat' ((first|(with_reducible first|apply a_|apply b_|apply c_)|((with_reducible first|apply d_|apply e_|apply f_|apply g_);focus first|omega|(simp only[q_]<;>omega))|((with_reducible first|apply i_|apply h_);focus first|omega|(simp only[q_]<;>omega))|((with_reducible apply h_);focus first|decide|kernel_rfl)|refine s_ (by decide) ?_|refine t_ (by decide) ?_|refine r_ pb rfl ?_|with_reducible first|apply l_|apply m_|apply n_|apply o_|refine p_ (fun _=>?_) (fun _=>?_))<;>(conv=>whnf)))
 all_goals first|exact Ret.mk rfl|skip
end Go.Proofs.Ythejollbijglcaa.Pm
end
section
namespace Go.Proofs.Ythejollbijglcaa.Pm
open Go.RowKit K
set_option maxRecDepth 100000
set_option maxRecDepth 100000
open Tr
namespace Tr
abbrev fkey (l:List PairD):List UInt8:=(l.headD ⟨[],0⟩).Key
structure IsAt (L:List (List PairD)) (key:List UInt8) (a:Nat):Prop where
 lt:a<L.length
 lo:a=0∨¬key<fkey (L.getD a [])
 hi:∀j,a<j→j<L.length→key<fkey (L.getD j [])
def Rise (L:List (List PairD)):Prop:=∀i j,i<j→j<L.length→fkey (L.getD i [])<fkey (L.getD j [])
theorem scanF_spec (fk:Nat→List UInt8) (key:List UInt8):∀(c k at_:Nat),(scanF fk key k c at_=at_∧∀m,k≤m→m<k+c→key<fk m)∨
  (k≤scanF fk key k c at_∧scanF fk key k c at_<k+c∧¬key<fk (scanF fk key k c at_)∧∀m,scanF fk key k c at_<m→m<k+c→key<fk m)
 | 0,k,at_=>.inl ⟨rfl,fun m h1 h2=>by omega⟩
 | c+1,k,at_=>by
  rw[scanF]
  rcases scanF_spec fk key c (k+1) (if ¬key<fk k then k else at_) with ⟨h1,h2⟩ | ⟨h1,h2,h3,h4⟩
  ·rw[h1]
   by_cases hk:¬key<fk k
   ·rw[if_pos hk]
    exact .inr ⟨Nat.le_refl _,by omega,hk,fun m h3 h4=>h2 m (by omega) (by omega)⟩
   ·rw[if_neg hk]
    refine .inl ⟨rfl,fun m h3 h4=>?_⟩
    rcases Nat.eq_or_lt_of_le h3 with e | h
    ·subst e;exact Decidable.of_not_not hk
    ·exact h2 m (by omega) (by omega)
  ·exact .inr ⟨by omega,by omega,h3,fun m g1 g2=>h4 m g1 (by omega)⟩
theorem leafF_go {L:List (List PairD)} {U:List (List Nat)} (hv:OkT L U) (hR:Rise L) (key:List UInt8):∀(l a:Nat),l≤U.length→a<lenAt L U l→
  (firstF U l a=0∨¬key<fkey (L.getD (firstF U l a) []))→(∀j,firstF U l (a+1)≤j→j<L.length→key<fkey (L.getD j []))→IsAt L key (leafF L U key l a)
 | 0,a,_,ha,h1,h2=>⟨ha,h1,fun j h3 h4=>h2 j h3 h4⟩
 | l+1,a,hl,ha,h1,h2=>by
  have hlU:l<U.length:=hl
  rw[leafF]
  obtain⟨u,hu⟩:∃u,u=U.getD l []:=⟨_,rfl⟩
  have hue:u=U[l]:=by rw[hu,List.getD_eq_getElem?_getD,List.getElem?_eq_getElem hlU];rfl
  have hal:a<u.length:=by rw[hu];exact ha
  rw[firstF,← hu] at h1
  rw[firstF,← hu] at h2
  rw[← hu]
  have hgd:u.getD a 0=u[a]:=by rw[List.getD_eq_getElem?_getD,List.getElem?_eq_getElem hal];rfl
  have hpos:=hv.pos u (by rw[hue];exact List.getElem_mem hlU) u[a] (List.getElem_mem hal)
  have hsum:=sum_part hal
  have hus:u.sum=lenAt L U l:=by rw[hue];exact hv.sums l hlU
  have hs1:(u.take (a+1)).sum=(u.take a).sum+u[a]:=by rw[List.take_succ_eq_append_getElem hal,List.sum_append,List.sum_singleton]
  rw[hgd]
  rw[hs1] at h2
  obtain⟨fr,hfr⟩:∃fr,fr=(u.take a).sum:=⟨_,rfl⟩
  rw[← hfr] at h1 h2 hsum ⊢
  have hb:scanF (firstK L U l) key (fr+1) (u[a] - 1) fr<lenAt L U l:=scanF_lt _ _ _ _ _ _ (by omega) (by omega)
  have hfk:∀m,firstK L U l m=fkey (L.getD (firstF U l m) []):=fun m=>rfl
  have hbo:∀m,fr+1≤m→m<fr+1+(u[a] - 1)→key<firstK L U l m→∀j,firstF U l m≤j→j<L.length→key<fkey (L.getD j []):=fun m g1 g2 g3 j g4 g5=>by
   rw[hfk] at g3
   rcases Nat.eq_or_lt_of_le g4 with e | h
   ·rw[← e];exact g3
   ·exact lt_tr g3 (hR _ j h g5)
  rcases scanF_spec (firstK L U l) key (u[a] - 1) (fr+1) fr with ⟨e,h3⟩ | ⟨h3,h4,h5,h6⟩
  ·rw[e]
   refine leafF_go hv hR key l fr (by omega) (by omega) h1 fun j h4 h5=>?_
   by_cases hq:u[a]=1
   ·exact h2 j (by rw[hq];exact h4) h5
   ·exact hbo (fr+1) (Nat.le_refl _) (by omega) (h3 _ (Nat.le_refl _) (by omega)) j h4 h5
  ·refine leafF_go hv hR key l _ (by omega) hb (.inr (by rw[← hfk];exact h5)) fun j h7 h8=>?_
   by_cases hq:scanF (firstK L U l) key (fr+1) (u[a] - 1) fr+1=fr+u[a]
   ·rw[hq] at h7
    exact h2 j h7 h8
   ·exact hbo _ (by omega) (by omega) (h6 _ (Nat.lt_succ_self _) (by omega)) j h7 h8
theorem leafF_at {L:List (List PairD)} {U:List (List Nat)} (hv:OkT L U) (hR:Rise L) (ht:lenAt L U U.length=1) (key:List UInt8):IsAt L key (leafF L U key U.length 0):=by
 have h0:∀l,firstF U l 0=0:=fun l=>by
  induction l with
  | zero=>rfl
  | succ l ih=>rw[firstF,List.take_zero];exact ih
 have h1:∀l,l≤U.length→firstF U l (lenAt L U l)=L.length:=fun l hl=>by
  induction l with
  | zero=>rfl
  | succ l ih=>
   have hlU:l<U.length:=hl
   have hue:U.getD l []=U[l]:=by rw[List.getD_eq_getElem?_getD,List.getElem?_eq_getElem hlU];rfl
   rw[firstF,lenAt,List.take_length,hue,hv.sums l hlU]
   exact ih (by omega)
 refine leafF_go hv hR key _ _ (Nat.le_refl _) (by rw[ht];decide) (.inl (h0 _)) fun j h2 h3=>?_
 have:=h1 U.length (Nat.le_refl _)
 rw[ht] at this
 rw[this] at h2
 omega
theorem getD_left {A B:List (List PairD)} {j:Nat} (h:j<A.length):(A++B).getD j []=A.getD j []:=by
 rw[List.getD_eq_getElem?_getD,List.getD_eq_getElem?_getD,List.getElem?_append_left h]
theorem getD_right {A B:List (List PairD)} {j:Nat}:(A++B).getD (A.length+j) []=B.getD j []:=by
 rw[List.getD_eq_getElem?_getD,List.getD_eq_getElem?_getD,List.getElem?_append_right (by omega)]
 congr 2;omega
theorem Rise.left {A B:List (List PairD)} (h:Rise (A++B)):Rise A:=fun i j hi hj=>by
 have:=h i j hi (by rw[List.length_append];omega)
 rwa [getD_left (by omega),getD_left hj] at this
theorem Rise.right {A B:List (List PairD)} (h:Rise (A++B)):Rise B:=fun i j hi hj=>by
 have:=h (A.length+i) (A.length+j) (by omega) (by rw[List.length_append];omega)
 rwa [getD_right,getD_right] at this
theorem getD_mem {L:List (List PairD)} {i:Nat} (h:i<L.length):L.getD i []∈L:=by
 rw[List.getD_eq_getElem?_getD,List.getElem?_eq_getElem h];exact List.getElem_mem h
theorem rise_of {L:List (List PairD)} (hn:∀l∈L,l≠[]) (ha:Asc L.flatten):Rise L:=fun i j hi hj=>by
 have h2:=(List.pairwise_flatten.1 ha).2
 have:=List.pairwise_iff_getElem.1 h2 i j (by omega) hj hi
 rw[List.getD_eq_getElem?_getD,List.getElem?_eq_getElem (show i<L.length by omega),List.getD_eq_getElem?_getD,List.getElem?_eq_getElem hj,Option.getD_some,Option.getD_some]
 have hm:∀l∈L,∃p ps,l=p::ps:=fun l hl=>by
  cases l with
  | nil=>exact absurd rfl (hn _ hl)
  | cons p ps=>exact⟨p,ps,rfl⟩
 obtain⟨p,ps,e1⟩:=hm L[i] (List.getElem_mem _)
 obtain⟨q,qs,e2⟩:=hm L[j] (List.getElem_mem _)
 rw[e1,e2] at this ⊢
 exact this p List.mem_cons_self q List.mem_cons_self
end Tr
end Go.Proofs.Ythejollbijglcaa.Pm
end
section
namespace Go.Proofs.Ythejollbijglcaa.Pm
open Go.RowKit K
set_option maxRecDepth 100000
set_option maxRecDepth 100000
open Tr
namespace Tr
def delP (Q:List PairD) (key:List UInt8):List PairD:=Q.filter fun q=>!decide (q.Key=key)
theorem asc_nil:Asc []:=List.Pairwise.nil
theorem asc_cons {x:PairD} {l:List PairD}:Asc (x::l)↔(∀y∈l,x.Key<y.Key)∧Asc l:=List.pairwise_cons
theorem asc_app {a b:List PairD}:Asc (a++b)↔Asc a∧Asc b∧∀x∈a,∀y∈b,x.Key<y.Key:=List.pairwise_append
theorem asc_split {key:List UInt8}:∀{l:List PairD},Asc l→l.filter (fun q=>decide (ltT q.Key key))++l.filter (fun q=>!decide (ltT q.Key key))=l
 | [],_=>rfl
 | x::l,h=>by
  obtain⟨h1,h2⟩:=asc_cons.1 h
  by_cases hx:ltT x.Key key
  ·rw[List.filter_cons_of_pos (by simpa using hx),List.filter_cons_of_neg (by simpa using hx),List.cons_append,asc_split h2]
  ·rw[List.filter_cons_of_neg (by simpa using hx),List.filter_cons_of_pos (by simpa using hx),List.filter_eq_nil_iff.2,List.nil_append,List.filter_eq_self.2]
   ·intro y hy
    have:¬ltT y.Key key:=fun g=>hx (lt_tr (h1 y hy) g)
    simpa using this
   ·intro y hy
    have:¬ltT y.Key key:=fun g=>hx (lt_tr (h1 y hy) g)
    simpa using this
theorem asc_key {Q:List PairD} (h:Asc Q) {x y:PairD} (hx:x∈Q) (hy:y∈Q) (e:x.Key=y.Key):x=y:=by
 induction Q with
 | nil=>cases hx
 | cons z Q ih=>
  obtain⟨h1,h2⟩:=asc_cons.1 h
  rcases List.mem_cons.1 hx with hx' | hx'<;>rcases List.mem_cons.1 hy with hy' | hy'
  ·rw[hx',hy']
  ·have:=h1 y hy'
   rw[← hx',e] at this
   exact absurd this (lt_irr _)
  ·have:=h1 x hx'
   rw[← hy',e] at this
   exact absurd this (lt_irr _)
  ·exact ih h2 hx' hy'
def lookP (Q:List PairD) (key:List UInt8):Option Int:=(Q.find? fun q=>decide (q.Key=key)).map (·.Id)
theorem look_mem {Q:List PairD} (h:Asc Q) {p:PairD} (hp:p∈Q):lookP Q p.Key=some p.Id:=by
 unfold lookP
 cases hf:Q.find? fun q=>decide (q.Key=p.Key) with
 | none=>
  have:=List.find?_eq_none.1 hf p hp
  simp at this
 | some q=>
  have h1:=List.mem_of_find?_eq_some hf
  have h2:q.Key=p.Key:=by simpa using List.find?_some hf
  rw[asc_key h h1 hp h2];rfl
theorem look_none {Q:List PairD} {key:List UInt8}:lookP Q key=none↔∀q∈Q,q.Key≠key:=by
 unfold lookP
 rw[Option.map_eq_none_iff,List.find?_eq_none]
 simp
theorem look_some {Q:List PairD} (h:Asc Q) {key:List UInt8} {i:Int}:lookP Q key=some i↔∃p∈Q,p.Key=key∧p.Id=i:=by
 constructor
 ·intro e
  unfold lookP at e
  obtain⟨p,h1,h2⟩:=Option.map_eq_some_iff.1 e
  exact⟨p,List.mem_of_find?_eq_some h1,by simpa using List.find?_some h1,h2⟩
 ·rintro⟨p,h1,rfl,rfl⟩
  exact look_mem h h1
theorem look_ext {Q R:List PairD} (hQ:Asc Q) (hR:Asc R) {key:List UInt8} (h:∀p,p.Key=key→(p∈Q↔p∈R)):lookP Q key=lookP R key:=by
 refine Option.ext fun i=>?_
 rw[look_some hQ,look_some hR]
 exact⟨fun ⟨p,h1,h2,h3⟩=>⟨p,(h p h2).1 h1,h2,h3⟩,fun ⟨p,h1,h2,h3⟩=>⟨p,(h p h2).2 h1,h2,h3⟩⟩
theorem at_parts {L:List (List PairD)} {key:List UInt8} {a:Nat} (hA:IsAt L key a) (hn:∀l∈L,l≠[]) (ha:Asc L.flatten) :
  ∃A B,L=A++[L.getD a []]++B∧A.length=a∧(∀x∈A.flatten,x.Key<key)∧(∀y∈B.flatten,key<y.Key)∧Asc (L.getD a []):=by
 have hlt:=hA.lt
 have hg:L.getD a []=L[a]:=by rw[List.getD_eq_getElem?_getD,List.getElem?_eq_getElem hlt];rfl
 have hL:L=L.take a++[L.getD a []]++L.drop (a+1):=by rw[hg,← List.take_succ_eq_append_getElem hlt,List.take_append_drop]
 have hfk:∀l∈L,fkey l=(l.headD ⟨[],0⟩).Key∧∃p ps,l=p::ps:=fun l hl=>by
  cases l with
  | nil=>exact absurd rfl (hn _ hl)
  | cons p ps=>exact⟨rfl,p,ps,rfl⟩
 have hpl:=(List.pairwise_flatten.1 ha)
 refine⟨L.take a,L.drop (a+1),hL,by rw[List.length_take];omega,fun x hx=>?_,fun y hy=>?_,hpl.1 _ (getD_mem hlt)⟩
 ·obtain⟨l,hl,hxl⟩:=List.mem_flatten.1 hx
  obtain⟨i,hi,rfl⟩:=List.getElem_of_mem hl
  rw[List.length_take] at hi
  rw[List.getElem_take] at hxl
  have h2:=List.pairwise_iff_getElem.1 hpl.2 i a (by omega) hlt (by omega) x hxl
  obtain⟨_,p,ps,e⟩:=hfk L[a] (List.getElem_mem hlt)
  have h3:=h2 p (by rw[e];exact List.mem_cons_self)
  rcases hA.lo with h0 | h0
  ·omega
  ·rw[hg,e] at h0
   have h0:¬key<p.Key:=h0
   rcases lt_tri p.Key key with g | g | g
   ·exact lt_tr h3 g
   ·rw[← g];exact h3
   ·exact absurd g h0
 ·obtain⟨l,hl,hyl⟩:=List.mem_flatten.1 hy
  obtain⟨i,hi,rfl⟩:=List.getElem_of_mem hl
  rw[List.length_drop] at hi
  rw[List.getElem_drop] at hyl
  have h4:=hA.hi (a+1+i) (by omega) (by omega)
  rw[List.getD_eq_getElem?_getD,List.getElem?_eq_getElem (show a+1+i<L.length by omega),Option.getD_some] at h4
  have h5:=hpl.1 L[a+1+i] (List.getElem_mem _)
  obtain⟨_,p,ps,e⟩:=hfk L[a+1+i] (List.getElem_mem _)
  rw[e] at h4 h5 hyl
  have h4:key<p.Key:=h4
  rcases List.mem_cons.1 hyl with rfl | hyl
  ·exact h4
  ·exact lt_tr h4 ((asc_cons.1 h5).1 y hyl)
theorem look_flat {L:List (List PairD)} {key:List UInt8} {a:Nat} (hA:IsAt L key a) (hn:∀l∈L,l≠[]) (ha:Asc L.flatten):lookP L.flatten key=lookP (L.getD a []) key:=by
 obtain⟨A,B,hL,hl,hx,hy,hasc⟩:=at_parts hA hn ha
 refine look_ext ha hasc fun p hp=>?_
 obtain⟨l,hle⟩:∃l,l=L.getD a []:=⟨_,rfl⟩
 rw[← hle] at hL ⊢
 rw[hL]
 simp only[List.flatten_append,List.mem_append,List.flatten_cons,List.flatten_nil,List.append_nil]
 constructor
 ·rintro ((h | h) | h)
  ·have:=hx p h
   rw[hp] at this
   exact absurd this (lt_irr _)
  ·exact h
  ·have:=hy p h
   rw[hp] at this
   exact absurd this (lt_irr _)
 ·exact fun h=>.inl (.inr h)
theorem hit_pos {l:List PairD} (h:Asc l) {key:List UInt8}:(hitF l key=true↔∃q∈l,q.Key=key)∧∀q∈l,q.Key=key→∃hp:posF l key<l.length,l[posF l key]=q∧delP l key=l.take (posF l key)++l.drop (posF l key+1):=by
 constructor
 ·unfold hitF
  rw[List.any_eq_true]
  simp
 ·intro q hq hk
  obtain⟨i,hi,rfl⟩:=List.getElem_of_mem hq
  have h1:posF l key=i:=posF_at (fun m hm hmi=>by rw[← hk];exact h.lt hi hmi) (fun m hm hmi=>by
   rcases Nat.eq_or_lt_of_le hmi with e | g
   ·subst e;rw[hk];exact lt_irr _
   ·have:=h.lt hm g
    rw[hk] at this
    exact lt_asym this) (by omega)
  rw[h1]
  refine⟨hi,rfl,?_⟩
  unfold delP
  have hl:l=l.take i++[l[i]]++l.drop (i+1):=by rw[← List.take_succ_eq_append_getElem hi,List.take_append_drop]
  conv=>lhs;rw[hl]
  rw[List.filter_append,List.filter_append,List.filter_eq_self.2,List.filter_cons_of_neg (by simpa using hk),List.filter_nil,List.append_nil,List.filter_eq_self.2]
  ·intro x hx
   obtain⟨m,hm,rfl⟩:=List.getElem_of_mem hx
   rw[List.length_drop] at hm
   rw[List.getElem_drop]
   have:=h.lt (j:=i+1+m) (i:=i) (by omega) (by omega)
   rw[hk] at this
   have:l[i+1+m].Key≠key:=fun e=>by rw[e] at this;exact lt_irr _ this
   simpa using this
  ·intro x hx
   obtain⟨m,hm,rfl⟩:=List.getElem_of_mem hx
   rw[List.length_take] at hm
   rw[List.getElem_take]
   have:=h.lt (j:=i) (i:=m) hi (by omega)
   rw[hk] at this
   have:l[m].Key≠key:=fun e=>by rw[e] at this;exact lt_irr _ this
   simpa using this
end Tr
end Go.Proofs.Ythejollbijglcaa.Pm
end
section
namespace Go.Proofs.Ythejollbijglcaa.Pm
open Go.RowKit K
set_option maxRecDepth 100000
set_option maxRecDepth 100000
open Tr
namespace Tr
def lastK (seen:List PairD):List UInt8:=(seen.getLastD ⟨[],0⟩).Key
def prChk:List PairD→List PairD→Int
 | [],_=>0
 | p::ps,seen=>if 40<p.Key.length then 2 else if 0<seen.length∧¬ltT (lastK seen) p.Key then 4 else prChk ps (seen++[p])
abbrev badL (m:Nat) (l:List PairD):Prop:=(l.length<2∨4<l.length)∧(1<m∨l.length=0∨4<l.length)
def lvChk (m:Nat):List (List PairD)→List PairD→Int
 | [],_=>0
 | l::ls,seen=>if badL m l then 1 else if prChk l seen≠0 then prChk l seen else lvChk m ls (seen++l)
def upChk:Nat→List (List Int)→Int
 | b,[]=>if 1<b then 1 else 0
 | b,u::us=>if b<2 then 1 else if (∀n∈u,2≤n∧n≤4)∧u.sum=b then upChk u.length us else 1
def chkT (L:List (List PairD)) (Us:List (List Int)):Int:=
 if 64<L.length∨8<Us.length then 2 else if lvChk L.length L []≠0 then lvChk L.length L [] else if upChk L.length Us≠0 then 1 else if 64<L.flatten.length then 2 else 0
theorem lastK_snoc (seen:List PairD) (p:PairD):lastK (seen++[p])=p.Key:=by unfold lastK;rw[List.getLastD_concat]
theorem asc_snoc {seen:List PairD} {p:PairD} (h:Asc seen):Asc (seen++[p])↔¬(0<seen.length∧¬ltT (lastK seen) p.Key):=by
 rw[asc_app]
 rcases List.eq_nil_or_concat seen with rfl | ⟨s,q,e⟩
 ·exact⟨fun _ h=>absurd h.1 (Nat.lt_irrefl 0),fun _=>⟨asc_nil,List.pairwise_singleton _ _,fun x hx=>(by cases hx)⟩⟩
 ·rw[List.concat_eq_append] at e
  subst e
  rw[lastK_snoc]
  constructor
  ·rintro⟨_,_,h3⟩ ⟨_,h4⟩
   exact h4 (h3 q (by simp) p (by simp))
  ·intro h1
   have h2:q.Key<p.Key:=Decidable.of_not_not fun g=>h1 ⟨by simp,g⟩
   refine⟨h,List.pairwise_singleton _ _,fun x hx y hy=>?_⟩
   rw[List.mem_singleton] at hy
   subst hy
   rcases List.mem_append.1 hx with hx | hx
   ·exact lt_tr ((asc_app.1 h).2.2 x hx q (by simp)) h2
   ·rw[List.mem_singleton] at hx
    subst hx;exact h2
theorem prChk_ok:∀(ps seen:List PairD),Asc seen→(prChk ps seen=0↔Asc (seen++ps)∧∀p∈ps,p.Key.length≤40)
 | [],seen,h=>by rw[List.append_nil];exact⟨fun _=>⟨h,fun p hp=>(by cases hp)⟩,fun _=>rfl⟩
 | p::ps,seen,h=>by
  rw[prChk]
  by_cases h1:40<p.Key.length
  ·rw[if_pos h1]
   exact⟨fun e=>(by cases e),fun e=>by have:=e.2 p List.mem_cons_self;omega⟩
  rw[if_neg h1]
  by_cases h2:0<seen.length∧¬ltT (lastK seen) p.Key
  ·rw[if_pos h2]
   refine⟨fun e=>(by cases e),fun e=>?_⟩
   have:Asc (seen++[p]):=by
    have:=e.1
    rw[show seen++p::ps=(seen++[p])++ps by simp] at this
    exact (asc_app.1 this).1
   exact absurd h2 ((asc_snoc h).1 this)
  ·rw[if_neg h2,prChk_ok ps (seen++[p]) ((asc_snoc h).2 h2),List.append_assoc]
   refine⟨fun ⟨a,b⟩=>⟨a,fun q hq=>?_⟩,fun ⟨a,b⟩=>⟨a,fun q hq=>b q (List.mem_cons_of_mem _ hq)⟩⟩
   rcases List.mem_cons.1 hq with rfl | hq
   ·omega
   ·exact b q hq
theorem lvChk_ok (m:Nat):∀(ls:List (List PairD)) (seen:List PairD),Asc seen→(lvChk m ls seen=0↔(∀l∈ls,¬badL m l)∧Asc (seen++ls.flatten)∧∀p∈ls.flatten,p.Key.length≤40)
 | [],seen,h=>by
  rw[List.flatten_nil,List.append_nil]
  exact⟨fun _=>⟨fun l hl=>(by cases hl),h,fun p hp=>(by cases hp)⟩,fun _=>rfl⟩
 | l::ls,seen,h=>by
  rw[lvChk]
  by_cases h1:badL m l
  ·rw[if_pos h1]
   exact⟨fun e=>(by cases e),fun e=>absurd h1 (e.1 l List.mem_cons_self)⟩
  rw[if_neg h1]
  have hp:=prChk_ok l seen h
  by_cases h2:prChk l seen≠0
  ·rw[if_pos h2]
   refine⟨fun e=>absurd e h2,fun ⟨_,e,e2⟩=>absurd (hp.2 ⟨?_,fun p hp=>e2 p (by rw[List.flatten_cons];exact List.mem_append_left _ hp)⟩) h2⟩
   rw[List.flatten_cons,← List.append_assoc] at e
   exact (asc_app.1 e).1
  ·rw[if_neg h2]
   obtain⟨g1,g2⟩:=hp.1 (Decidable.of_not_not h2)
   rw[lvChk_ok m ls (seen++l) g1,List.flatten_cons,List.append_assoc]
   refine⟨fun ⟨a,b,c⟩=>⟨fun q hq=>?_,b,fun q hq=>?_⟩,fun ⟨a,b,c⟩=>⟨fun q hq=>a q (List.mem_cons_of_mem _ hq),b,fun q hq=>c q (List.mem_append_right _ hq)⟩⟩
   ·rcases List.mem_cons.1 hq with rfl | hq
    ·exact h1
    ·exact a q hq
   ·rcases List.mem_append.1 hq with hq | hq
    ·exact g2 q hq
    ·exact c q hq
abbrev intU (U:List (List Nat)):List (List Int):=U.map (List.map fun n:Nat=>(n:Int))
def upOk:Nat→List (List Nat)→Nat→Prop
 | b,[],t=>b=t
 | b,u::us,t=>2≤b∧(∀n∈u,2≤n∧n≤4)∧u.sum=b∧upOk u.length us t
theorem sum_int (u:List Nat):(u.map fun n:Nat=>(n:Int)).sum=(u.sum:Int):=by
 induction u with
 | nil=>rfl
 | cons x u ih=>rw[List.map_cons,List.sum_cons,ih,List.sum_cons];push_cast;rfl
theorem nat_of {u:List Int} (h:∀n∈u,2≤n∧n≤4):∃v:List Nat,u=v.map (fun n:Nat=>(n:Int))∧∀n∈v,2≤n∧n≤4:=by
 refine⟨u.map Int.toNat,?_,?_⟩
 ·rw[List.map_map]
  conv=>lhs;rw[← List.map_id u]
  refine List.map_congr_left fun n hn=>?_
  have:=h n hn
  show n=((n.toNat:Nat):Int)
  omega
 ·intro n hn
  obtain⟨x,hx,rfl⟩:=List.mem_map.1 hn
  have:=h x hx
  omega
theorem upChk_ok:∀(us:List (List Int)) (b:Nat),upChk b us=0→∃U,us=intU U∧(b=0∧U=[]∨upOk b U 1)
 | [],b,h=>by
  rw[upChk] at h
  refine⟨[],rfl,?_⟩
  by_cases h1:1<b
  ·rw[if_pos h1] at h;cases h
  ·rcases Nat.eq_zero_or_pos b with e | e
   ·exact .inl ⟨e,rfl⟩
   ·refine .inr ?_
    show b=1
    omega
 | u::us,b,h=>by
  rw[upChk] at h
  by_cases h1:b<2
  ·rw[if_pos h1] at h;cases h
  rw[if_neg h1] at h
  by_cases h2:(∀n∈u,2≤n∧n≤4)∧u.sum=b
  ·rw[if_pos h2] at h
   obtain⟨v,rfl,hv⟩:=nat_of h2.1
   rw[List.length_map] at h
   have hs:=h2.2
   rw[sum_int] at hs
   obtain⟨U,rfl,hU⟩:=upChk_ok us v.length h
   refine⟨v::U,rfl,.inr ⟨by omega,hv,by omega,?_⟩⟩
   rcases hU with ⟨e,_⟩ | hU
   ·have:v=[]:=List.eq_nil_of_length_eq_zero e
    subst this
    have:(0:Int)=b:=hs
    omega
   ·exact hU
  ·rw[if_neg h2] at h;cases h
structure TreeOk (L:List (List PairD)) (U:List (List Nat)):Prop where
 many:L.length≤64
 deep:U.length≤8
 leaf:∀l∈L,¬badL L.length l
 asc:Asc L.flatten
 keys:∀p∈L.flatten,p.Key.length≤40
 up:L=[]∧U=[]∨upOk L.length U 1
 count:L.flatten.length≤64
theorem chk_ok {L:List (List PairD)} {Us:List (List Int)} (h:chkT L Us=0):∃U,Us=intU U∧TreeOk L U:=by
 unfold chkT at h
 by_cases h1:64<L.length∨8<Us.length
 ·rw[if_pos h1] at h;cases h
 rw[if_neg h1] at h
 by_cases h2:lvChk L.length L []≠0
 ·rw[if_pos h2] at h;exact absurd h h2
 rw[if_neg h2] at h
 by_cases h3:upChk L.length Us≠0
 ·rw[if_pos h3] at h;cases h
 rw[if_neg h3] at h
 by_cases h4:64<L.flatten.length
 ·rw[if_pos h4] at h;cases h
 obtain⟨g1,g2,g3⟩:=(lvChk_ok L.length L [] asc_nil).1 (Decidable.of_not_not h2)
 obtain⟨U,rfl,hU⟩:=upChk_ok Us _ (Decidable.of_not_not h3)
 rw[List.length_map] at h1
 exact⟨U,rfl,by omega,by omega,g1,g2,g3,hU.imp (fun e=>⟨List.eq_nil_of_length_eq_zero e.1,e.2⟩) id,by omega⟩
def lenB (b:Nat) (U:List (List Nat)):Nat→Nat
 | 0=>b
 | l+1=>(U.getD l []).length
theorem lenB_at (L:List (List PairD)) (U:List (List Nat)) (l:Nat):lenAt L U l=lenB L.length U l:=by cases l<;>rfl
theorem lenB_cons (b:Nat) (u:List Nat) (U:List (List Nat)) (l:Nat):lenB b (u::U) (l+1)=lenB u.length U l:=by cases l<;>rfl
theorem two_sum:∀{u:List Nat},(∀n∈u,2≤n∧n≤4)→2*u.length≤u.sum∧u.sum≤4*u.length
 | [],_=>⟨Nat.le_refl _,Nat.le_refl _⟩
 | x::u,h=>by
  obtain⟨h1,h2⟩:=two_sum (u:=u) fun n hn=>h n (List.mem_cons_of_mem _ hn)
  have:=h x List.mem_cons_self
  rw[List.length_cons,List.sum_cons];omega
theorem upOk_at:∀(U:List (List Nat)) (b t:Nat),upOk b U t→(∀l (h:l<U.length),U[l].sum=lenB b U l)∧(∀l,l≤U.length→lenB b U l≤b)∧lenB b U U.length=t∧∀u∈U,∀n∈u,2≤n∧n≤4
 | [],b,t,h=>⟨fun l h=>absurd h (Nat.not_lt_zero l),fun l hl=>by
   have:l=0:=Nat.le_zero.1 hl
   subst this;exact Nat.le_refl _,h,fun u hu=>(by cases hu)⟩
 | u::U,b,t,⟨h1,h2,h3,h4⟩=>by
  obtain⟨g1,g2,g3,g4⟩:=upOk_at U _ t h4
  have hu:=two_sum h2
  refine⟨fun l hl=>?_,fun l hl=>?_,?_,fun v hv=>?_⟩
  ·cases l with
   | zero=>exact h3
   | succ l=>rw[lenB_cons];exact g1 l (by simpa using hl)
  ·cases l with
   | zero=>exact Nat.le_refl _
   | succ l=>
    rw[lenB_cons]
    have:=g2 l (by simpa using hl)
    omega
  ·rw[List.length_cons,lenB_cons];exact g3
  ·rcases List.mem_cons.1 hv with rfl | hv
   ·exact h2
   ·exact g4 v hv
theorem TreeOk.okT {L:List (List PairD)} {U:List (List Nat)} (h:TreeOk L U):OkT L U:=by
 have hl:∀l∈L,0<l.length∧l.length≤4:=fun l hl=>by
  have:=h.leaf l hl
  unfold badL at this
  omega
 rcases h.up with ⟨rfl,rfl⟩ | e
 ·refine⟨fun u hu=>(by cases hu),fun l hl=>absurd hl (Nat.not_lt_zero l),fun l hl=>?_,Nat.zero_le _,hl⟩
  have:l=0:=Nat.le_zero.1 hl
  subst this;exact Nat.zero_le _
 ·obtain⟨g1,g2,g3,g4⟩:=upOk_at _ _ _ e
  have:=h.many
  exact⟨g4,fun l hl=>by rw[lenB_at];exact g1 l hl,fun l hl=>by rw[lenB_at];have:=g2 l hl;omega,h.deep,hl⟩
theorem TreeOk.top {L:List (List PairD)} {U:List (List Nat)} (h:TreeOk L U) (hL:L≠[]):lenAt L U U.length=1∧upOk L.length U 1:=by
 rcases h.up with ⟨rfl,_⟩ | e
 ·exact absurd rfl hL
 ·exact⟨by rw[lenB_at];exact (upOk_at _ _ _ e).2.2.1,e⟩
theorem TreeOk.ne {L:List (List PairD)} {U:List (List Nat)} (h:TreeOk L U):∀l∈L,l≠[]:=fun l hl e=>by
 have:=(h.okT.leaf l hl).1
 rw[e] at this;exact absurd this (by decide)
theorem TreeOk.rise {L:List (List PairD)} {U:List (List Nat)} (h:TreeOk L U):Rise L:=rise_of h.ne h.asc
theorem TreeOk.at_ {L:List (List PairD)} {U:List (List Nat)} (h:TreeOk L U) (hL:L≠[]) (key:List UInt8):IsAt L key (leafF L U key U.length 0):=leafF_at h.okT h.rise (h.top hL).1 key
theorem TreeOk.sizes {L:List (List PairD)} {U:List (List Nat)} (h:TreeOk L U):∀l∈L,(1<L.length→2≤l.length)∧1≤l.length∧l.length≤4:=fun l hl=>by
 have:=h.leaf l hl
 unfold badL at this
 omega
end Tr
end Go.Proofs.Ythejollbijglcaa.Pm
end
namespace Go.Proofs.Ythejollbijglcaa.Pm
section
open Go.RowKit K
set_option maxRecDepth 100000
set_option maxRecDepth 100000
structure TreeD where
 Leaves:List (List PairD)
 Up:List (List Int)
def TreeD.c (x:TreeD):List C:=[.sl 1 (x.Leaves.map (eSl 2 PairD.c)),.sl 1 (x.Up.map (eSl 1 eInt))]
def TreeD.ok (x:TreeD):Prop:=(okSl (Try.prog.bytesOf 28) (okSl (Try.prog.bytesOf 38) PairD.ok)) x.Leaves∧(okSl (Try.prog.bytesOf 54) (okSl (Try.prog.bytesOf 3) okInt)) x.Up
theorem openC_Tree:OpensC Try.prog 25 2 TreeD.c TreeD.ok:=by
 refine⟨by kernel_rfl,by decide,?_⟩
 intro H enc w spare held fuel cs x h hl
 have ht:Try.prog.underlying 25=some (.struct (Try.prog.fieldsOf 25)):=by kernel_rfl
 have hlen:=struct_len ht h
 rw[show Try.prog.cellsOf 25=2 by kernel_rfl] at hlen
 obtain⟨a0,e0,k0⟩:=field_of ht h hl 0 22 0 1 (by kernel_rfl) (openC_slice (sz:=1) (enc:=(eSl 2 PairD.c)) Try.underlying22 (by kernel_rfl) (fun _=>rfl) (openC_slice (sz:=2) (enc:=PairD.c) Try.underlying28 (by kernel_rfl) (fun _=>rfl) openC_Pair))
 obtain⟨a1,e1,k1⟩:=field_of ht h hl 1 23 1 1 (by kernel_rfl) (openC_slice (sz:=1) (enc:=(eSl 1 eInt)) Try.underlying23 (by kernel_rfl) (fun _=>rfl) (openC_slice (sz:=1) (enc:=eInt) Try.underlying54 (by kernel_rfl) (fun _=>rfl) (openC_int Try.underlying3 (by kernel_rfl))))
 have hall:CsRep (FW w) w ((eSl 1 (eSl 2 PairD.c)) a0++((eSl 1 (eSl 1 eInt)) a1++[])) (cs.drop 0):=(cs_field e0 (cs_field e1 (cs_end hlen)))
 rw[List.drop_zero] at hall
 exact⟨hlen,⟨a0,a1⟩,hall,⟨k0,k1⟩⟩
end
end Go.Proofs.Ythejollbijglcaa.Pm
section
namespace Go.Proofs.Ythejollbijglcaa.Pm
open Go.RowKit K
set_option maxRecDepth 100000
set_option maxRecDepth 100000
open Tr
def intC (n:Int):List C:=[.v (.int .i64 n)]
def upI (U:List (List Int)):List (List C):=U.map fun l=>[.sl 1 (l.map intC)]
theorem upI_int (U:List (List Nat)):upI (intU U)=upC U:=by
 unfold upI upC
 rw[List.map_map]
 refine List.map_congr_left fun l _=>?_
 show [C.sl 1 ((l.map fun n:Nat=>(n:Int)).map intC)]=_
 rw[List.map_map];rfl
abbrev lvV (L:List (List PairD)):PV:=.d (.c (.sl 1 (lvC L)))
abbrev trV (L:List (List PairD)) (U:List (List Int)):PV:=.agg [.c (.sl 1 (lvC L)),.c (.sl 1 (upI U))]
theorem p_fits (n:Nat):Pure Try.prog 54 [pInt .i64 n] (pBool (decide (2≤n∧n≤4))):=by
 refine pure_of Try.func54 (by rfl) rfl (by kernel_rfl) (by rfl) ?_
 by_cases h1:2≤n
 ·by_cases h2:n≤4
  ·rw[decide_eq_true ⟨h1,h2⟩]
   ((conv=>whnf);repeat' ((first|(with_reducible first|apply a_|apply b_|apply c_)|((with_reducible first|apply d_|apply e_|apply f_|apply g_);focus first|omega|(simp only[q_]<;>omega))|((with_reducible first|apply i_|apply h_);focus first|omega|(simp only[q_]<;>omega))|((with_reducible apply h_);focus first|decide|kernel_rfl)|refine s_ (by decide) ?_|refine t_ (by decide) ?_|with_reducible first|apply l_|apply m_|apply n_|apply o_|refine p_ (fun _=>?_) (fun _=>?_))<;>(conv=>whnf)))
   all_goals first|exact Ret.mk rfl | (exfalso;omega) | exact Ret.mk (by simp;omega)
  ·rw[decide_eq_false fun h=>h2 h.2]
   ((conv=>whnf);repeat' ((first|(with_reducible first|apply a_|apply b_|apply c_)|((with_reducible first|apply d_|apply e_|apply f_|apply g_);focus first|omega|(simp only[q_]<;>omega))|((with_reducible first|apply i_|apply h_);focus first|omega|(simp only[q_]<;>omega))|((with_reducible apply h_);focus first|decide|kernel_rfl)|refine s_ (by decide) ?_|refine t_ (by decide) ?_|with_reducible first|apply l_|apply m_|apply n_|apply o_|refine p_ (fun _=>?_) (fun _=>?_))<;>(conv=>whnf)))
   all_goals first|exact Ret.mk rfl | (exfalso;omega) | exact Ret.mk (by simp;omega)
 ·rw[decide_eq_false fun h=>h1 h.1]
  ((conv=>whnf);repeat' ((first|(with_reducible first|apply a_|apply b_|apply c_)|((with_reducible first|apply d_|apply e_|apply f_|apply g_);focus first|omega|(simp only[q_]<;>omega))|((with_reducible first|apply i_|apply h_);focus first|omega|(simp only[q_]<;>omega))|((with_reducible apply h_);focus first|decide|kernel_rfl)|refine s_ (by decide) ?_|refine t_ (by decide) ?_|with_reducible first|apply l_|apply m_|apply n_|apply o_|refine p_ (fun _=>?_) (fun _=>?_))<;>(conv=>whnf)))
  all_goals first|exact Ret.mk rfl | (exfalso;omega) | exact Ret.mk (by simp;omega)
theorem p_fitsI (n:Int):Pure Try.prog 54 [pInt .i64 n] (pBool (decide (2≤n∧n≤4))):=by
 refine pure_of Try.func54 (by rfl) rfl (by kernel_rfl) (by rfl) ?_
 by_cases h1:2≤n
 ·by_cases h2:n≤4
  ·rw[decide_eq_true ⟨h1,h2⟩]
   ((conv=>whnf);repeat' ((first|(with_reducible first|apply a_|apply b_|apply c_)|((with_reducible first|apply d_|apply e_|apply f_|apply g_);focus first|omega|(simp only[q_]<;>omega))|((with_reducible first|apply i_|apply h_);focus first|omega|(simp only[q_]<;>omega))|((with_reducible apply h_);focus first|decide|kernel_rfl)|refine s_ (by decide) ?_|refine t_ (by decide) ?_|with_reducible first|apply l_|apply m_|apply n_|apply o_|refine p_ (fun _=>?_) (fun _=>?_))<;>(conv=>whnf)))
   all_goals first|exact Ret.mk rfl | (exfalso;omega) | exact Ret.mk (by simp;omega)
  ·rw[decide_eq_false fun h=>h2 h.2]
   ((conv=>whnf);repeat' ((first|(with_reducible first|apply a_|apply b_|apply c_)|((with_reducible first|apply d_|apply e_|apply f_|apply g_);focus first|omega|(simp only[q_]<;>omega))|((with_reducible first|apply i_|apply h_);focus first|omega|(simp only[q_]<;>omega))|((with_reducible apply h_);focus first|decide|kernel_rfl)|refine s_ (by decide) ?_|refine t_ (by decide) ?_|with_reducible first|apply l_|apply m_|apply n_|apply o_|refine p_ (fun _=>?_) (fun _=>?_))<;>(conv=>whnf)))
   all_goals first|exact Ret.mk rfl | (exfalso;omega) | exact Ret.mk (by simp;omega)
 ·rw[decide_eq_false fun h=>h1 h.1]
  ((conv=>whnf);repeat' ((first|(with_reducible first|apply a_|apply b_|apply c_)|((with_reducible first|apply d_|apply e_|apply f_|apply g_);focus first|omega|(simp only[q_]<;>omega))|((with_reducible first|apply i_|apply h_);focus first|omega|(simp only[q_]<;>omega))|((with_reducible apply h_);focus first|decide|kernel_rfl)|refine s_ (by decide) ?_|refine t_ (by decide) ?_|with_reducible first|apply l_|apply m_|apply n_|apply o_|refine p_ (fun _=>?_) (fun _=>?_))<;>(conv=>whnf)))
  all_goals first|exact Ret.mk rfl | (exfalso;omega) | exact Ret.mk (by simp;omega)
namespace Tr
theorem take_flatL {L:List (List PairD)} {k:Nat} (h:k<L.length):(L.take (k+1)).flatten=(L.take k).flatten++L[k]:=by
 rw[List.take_succ_eq_append_getElem h,List.flatten_append];simp
end Tr
theorem p_chkleaves (L:List (List PairD)) (h64:L.length≤64) (hk:∀l∈L,∀p∈l,p.ok) (hl:∀l∈L,l.length≤140737488351232) :
  Pure Try.prog 34 [lvV L] (.tup [pInt .i64 (if lvChk L.length L []=0 then (L.flatten.length:Int) else 0),pInt .i64 (lvChk L.length L [])]):=by
 have hLl:(lvC L).length=L.length:=List.length_map _
 refine pure_of Try.func34 (by rfl) rfl (by kernel_rfl) (by rfl) ?_
 obtain⟨m,hm⟩:∃m,m=L.length:=⟨_,rfl⟩
 rw[← hm]
 ((conv=>whnf);repeat' ((first|(with_reducible first|apply a_|apply b_|apply c_)|((with_reducible first|apply d_|apply e_|apply f_|apply g_);focus first|omega|(simp only[q_]<;>omega))|((with_reducible first|apply i_|apply h_);focus first|omega|(simp only[q_]<;>omega))|((with_reducible apply h_);focus first|decide|kernel_rfl)|refine s_ (by decide) ?_|refine t_ (by decide) ?_|with_reducible first|apply l_|apply m_|apply n_|apply o_|refine p_ (fun _=>?_) (fun _=>?_))<;>(conv=>whnf)))
 refine LoopC.mk Nat (fun k=>[(0,lvV L),(4,pInt .i64 (L.take k).flatten.length),(5,pStr (tx (lastK (L.take k).flatten))),(10,lvV L),(11,pInt .i64 L.length),(12,pInt .i64 (k:Int))]) (fun _=>[]) []
  (fun k=>k≤L.length∧(L.take k).flatten.length≤4*k∧Asc (L.take k).flatten∧lvChk m L []=lvChk m (L.drop k) (L.take k).flatten) (fun k=>L.length - k) 0 ⟨Nat.zero_le _,Nat.le_refl _,asc_nil,rfl⟩ ?start ?round
 case start=>exact⟨[],rfl,rfl,⟨.inl rfl,.inl rfl,.inl rfl,.inl rfl,PLe.int (by rw[hLl]),.inl rfl,trivial⟩,trivial⟩
 case round=>
  rintro k ⟨h1,h2,h3,h4⟩
  have h1:k≤L.length:=h1
  have h2:(L.take k).flatten.length≤4*k:=h2
  have h3:Asc (L.take k).flatten:=h3
  have h4:lvChk m L []=lvChk m (L.drop k) (L.take k).flatten:=h4
  by_cases hkL:k<L.length
  ·rw[List.drop_eq_getElem_cons hkL,lvChk] at h4
   obtain⟨l,hle⟩:∃l,l=L[k]:=⟨_,rfl⟩
   have hmem:l∈L:=by rw[hle];exact List.getElem_mem hkL
   have hll:=hl l hmem
   have hlo:=hk l hmem
   have htf:=take_flatL hkL
   rw[← hle] at h4 htf
   have hrow:(lvC L)[k]? = some [.sl 2 (l.map PairD.c)]:=by
    unfold lvC
    rw[List.getElem?_map,List.getElem?_eq_getElem hkL,hle];rfl
   have hlml:(l.map PairD.c).length=l.length:=List.length_map _
   have pf:=p_fits (l.map PairD.c).length
   rw[show decide (2≤(l.map PairD.c).length∧(l.map PairD.c).length≤4)=decide (2≤l.length∧l.length≤4) by rw[hlml]] at pf
   by_cases hb:badL m l
   ·rw[if_pos hb] at h4
    rw[h4,if_neg (by decide)]
    have hf:decide (2≤l.length∧l.length≤4)=false:=decide_eq_false (by unfold badL at hb;omega)
    rw[hf] at pf
    unfold badL at hb
    rw[hm] at hb
    ((conv=>whnf);repeat' ((first|(with_reducible first|apply a_|apply b_|apply c_)|((with_reducible first|apply d_|apply e_|apply f_|apply g_);focus first|omega|(simp only[q_]<;>omega))|((with_reducible first|apply i_|apply h_);focus first|omega|(simp only[q_]<;>omega))|((with_reducible apply h_);focus first|decide|kernel_rfl)|refine s_ (by decide) ?_|refine t_ (by decide) ?_|(refine Idx.at' hrow rfl ?_)|refine r_ pf rfl ?_|with_reducible first|apply l_|apply m_|apply n_|apply o_|refine p_ (fun _=>?_) (fun _=>?_))<;>(conv=>whnf)))
    all_goals first
     | exact Ret.mk rfl
     | (exfalso;omega)
     | skip
   ·rw[if_neg hb] at h4
    obtain⟨sn,hsn⟩:∃sn,sn=(L.take k).flatten:=⟨_,rfl⟩
    rw[← hsn] at h2 h3 h4 htf
    unfold badL at hb
    rw[hm] at hb
    have hl4:l.length≤4:=by omega
    by_cases hf:2≤l.length∧l.length≤4
    all_goals
     first
     | rw[decide_eq_true hf] at pf
     | rw[decide_eq_false hf] at pf
     ((conv=>whnf);repeat' ((first|(with_reducible first|apply a_|apply b_|apply c_)|((with_reducible first|apply d_|apply e_|apply f_|apply g_);focus first|omega|(simp only[q_]<;>omega))|((with_reducible first|apply i_|apply h_);focus first|omega|(simp only[q_]<;>omega))|((with_reducible apply h_);focus first|decide|kernel_rfl)|refine s_ (by decide) ?_|refine t_ (by decide) ?_|(refine Idx.at' hrow rfl ?_)|refine r_ pf rfl ?_|with_reducible first|apply l_|apply m_|apply n_|apply o_|refine p_ (fun _=>?_) (fun _=>?_))<;>(conv=>whnf)))
     all_goals first
      | (exfalso;omega)
      | skip
     refine LoopC.mk Nat (fun j=>[(0,lvV L),(4,pInt .i64 (sn++l.take j).length),(5,pStr (tx (lastK (sn++l.take j)))),(10,lvV L),(11,pInt .i64 L.length),(12,pInt .i64 (k:Int)),(35,.d (.c (.sl 2 (l.map PairD.c)))),(36,pInt .i64 l.length),(37,pInt .i64 (j:Int))]) (fun _=>[]) []
      (fun j=>j≤l.length∧Asc (sn++l.take j)∧prChk l sn=prChk (l.drop j) (sn++l.take j)) (fun j=>l.length - j) 0 ⟨Nat.zero_le _,by simpa using h3,by simp⟩ ?start2 ?round2
     case start2=>exact⟨[],rfl,rfl,⟨.inl rfl,PLe.int (by rw[hsn];simp),PLe.text (by rw[hsn];simp),.inl rfl,.inl rfl,.inl rfl,.inl rfl,PLe.int (by rw[hlml]),.inl rfl,trivial⟩,trivial⟩
     case round2=>
      rintro j ⟨g1,g2,g3⟩
      have g1:j≤l.length:=g1
      have g2:Asc (sn++l.take j):=g2
      have g3:prChk l sn=prChk (l.drop j) (sn++l.take j):=g3
      obtain⟨s2,hs2⟩:∃s2,s2=sn++l.take j:=⟨_,rfl⟩
      have hs2l:s2.length=sn.length+j:=by rw[hs2,List.length_append,List.length_take];omega
      rw[← hs2] at g2 g3 ⊢
      by_cases hj:j<l.length
      ·have hnx:sn++l.take (j+1)=s2++[l[j]]:=by rw[List.take_succ_eq_append_getElem hj,hs2,List.append_assoc]
       obtain⟨p,hp⟩:∃p,p=l[j]:=⟨_,rfl⟩
       have hpo:p.ok:=by rw[hp];exact hlo _ (List.getElem_mem hj)
       have hpk:p.Key.length≤140737488351232:=hpo.1
       have hks:(tx p.Key).size=p.Key.length:=rfl
       rw[List.drop_eq_getElem_cons hj,prChk] at g3
       have hrp:(l.map PairD.c)[j]? = some (PairD.c p):=by rw[List.getElem?_map,List.getElem?_eq_getElem hj,hp];rfl
       rw[← hp] at g3 hnx
       by_cases hq:40<p.Key.length
       ·rw[if_pos hq] at g3
        rw[g3,if_pos (by decide)] at h4
        rw[h4,if_neg (by decide)]
        ((conv=>whnf);repeat' ((first|(with_reducible first|apply a_|apply b_|apply c_)|((with_reducible first|apply d_|apply e_|apply f_|apply g_);focus first|omega|(simp only[q_]<;>omega))|((with_reducible first|apply i_|apply h_);focus first|omega|(simp only[q_]<;>omega))|((with_reducible apply h_);focus first|decide|kernel_rfl)|refine s_ (by decide) ?_|refine t_ (by decide) ?_|(refine Idx.at' hrp rfl ?_)|with_reducible first|apply l_|apply m_|apply n_|apply o_|refine p_ (fun _=>?_) (fun _=>?_))<;>(conv=>whnf)))
        all_goals first
         | exact Ret.mk rfl
         | (exfalso;omega)
         | skip
       ·rw[if_neg hq] at g3
        have done:¬(0<s2.length∧¬ltT (lastK s2) p.Key)→Asc (sn++l.take (j+1))∧prChk l sn=prChk (l.drop (j+1)) (sn++l.take (j+1)):=fun hc=>by
         rw[if_neg hc] at g3
         rw[hnx]
         exact⟨(asc_snoc g2).2 hc,g3⟩
        have hlk:lastK (sn++l.take (j+1))=p.Key:=by rw[hnx,lastK_snoc]
        have hnl:(sn++l.take (j+1)).length=s2.length+1:=by rw[hnx,List.length_append];rfl
        by_cases h0:0<s2.length
        ·rcases lt_tri p.Key (lastK s2) with hc | hc | hc
         ·rw[if_pos ⟨h0,lt_asym hc⟩] at g3
          rw[g3,if_pos (by decide)] at h4
          rw[h4,if_neg (by decide)]
          have hb:Op.bytesLess (tx p.Key).toList (tx (lastK s2)).toList=true:=by rw[less_tx];exact decide_eq_true hc
          ((conv=>whnf);repeat' ((first|(with_reducible first|apply a_|apply b_|apply c_)|((with_reducible first|apply d_|apply e_|apply f_|apply g_);focus first|omega|(simp only[q_]<;>omega))|((with_reducible first|apply i_|apply h_);focus first|omega|(simp only[q_]<;>omega))|((with_reducible apply h_);focus first|decide|kernel_rfl)|refine s_ (by decide) ?_|refine t_ (by decide) ?_|(refine Idx.at' hrp rfl ?_)|(refine BCase.t hb ?_)|with_reducible first|apply l_|apply m_|apply n_|apply o_|refine p_ (fun _=>?_) (fun _=>?_))<;>(conv=>whnf)))
          all_goals first
           | exact Ret.mk rfl
           | (exfalso;omega)
           | skip
         ·rw[if_pos ⟨h0,by rw[hc];exact lt_irr _⟩] at g3
          rw[g3,if_pos (by decide)] at h4
          rw[h4,if_neg (by decide)]
          have hb:Op.bytesLess (tx p.Key).toList (tx (lastK s2)).toList=false:=by rw[less_tx,hc];exact decide_eq_false (lt_irr _)
          have hb2:decide (tx p.Key=tx (lastK s2))=true:=by rw[hc];exact decide_eq_true rfl
          ((conv=>whnf);repeat' ((first|(with_reducible first|apply a_|apply b_|apply c_)|((with_reducible first|apply d_|apply e_|apply f_|apply g_);focus first|omega|(simp only[q_]<;>omega))|((with_reducible first|apply i_|apply h_);focus first|omega|(simp only[q_]<;>omega))|((with_reducible apply h_);focus first|decide|kernel_rfl)|refine s_ (by decide) ?_|refine t_ (by decide) ?_|(refine Idx.at' hrp rfl ?_)|(refine BCase.f hb ?_)|(refine BCase.t hb2 ?_)|with_reducible first|apply l_|apply m_|apply n_|apply o_|refine p_ (fun _=>?_) (fun _=>?_))<;>(conv=>whnf)))
          all_goals first
           | exact Ret.mk rfl
           | (exfalso;omega)
           | skip
         ·obtain⟨d1,d2⟩:=done fun h=>h.2 hc
          have hb:Op.bytesLess (tx p.Key).toList (tx (lastK s2)).toList=false:=by rw[less_tx];exact decide_eq_false (lt_asym hc)
          have hb2:decide (tx p.Key=tx (lastK s2))=false:=decide_eq_false fun e=>by
           rw[tx_eq] at e
           rw[e] at hc
           exact lt_irr _ hc
          ((conv=>whnf);repeat' ((first|(with_reducible first|apply a_|apply b_|apply c_)|((with_reducible first|apply d_|apply e_|apply f_|apply g_);focus first|omega|(simp only[q_]<;>omega))|((with_reducible first|apply i_|apply h_);focus first|omega|(simp only[q_]<;>omega))|((with_reducible apply h_);focus first|decide|kernel_rfl)|refine s_ (by decide) ?_|refine t_ (by decide) ?_|(refine Idx.at' hrp rfl ?_)|(refine BCase.f hb ?_)|(refine BCase.f hb2 ?_)|with_reducible first|apply l_|apply m_|apply n_|apply o_|refine p_ (fun _=>?_) (fun _=>?_))<;>(conv=>whnf)))
          all_goals first
           | (exfalso;omega)
           | exact⟨j+1,⟨hj,d1,d2⟩,by show l.length - (j+1)<l.length - j;omega,[],rfl,rfl,⟨.inl rfl,PLe.int (by rw[hnl];push_cast;rfl),PLe.text (by rw[hlk]),.inl rfl,.inl rfl,.inl rfl,.inl rfl,.inl rfl,PLe.int (by push_cast;rfl),trivial⟩,trivial⟩
        ·obtain⟨d1,d2⟩:=done fun h=>h0 h.1
         ((conv=>whnf);repeat' ((first|(with_reducible first|apply a_|apply b_|apply c_)|((with_reducible first|apply d_|apply e_|apply f_|apply g_);focus first|omega|(simp only[q_]<;>omega))|((with_reducible first|apply i_|apply h_);focus first|omega|(simp only[q_]<;>omega))|((with_reducible apply h_);focus first|decide|kernel_rfl)|refine s_ (by decide) ?_|refine t_ (by decide) ?_|(refine Idx.at' hrp rfl ?_)|with_reducible first|apply l_|apply m_|apply n_|apply o_|refine p_ (fun _=>?_) (fun _=>?_))<;>(conv=>whnf)))
         all_goals first
          | (exfalso;omega)
          | skip
         exact⟨j+1,⟨hj,d1,d2⟩,by show l.length - (j+1)<l.length - j;omega,[],rfl,rfl,⟨.inl rfl,PLe.int (by rw[hnl];push_cast;rfl),PLe.text (by rw[hlk]),.inl rfl,.inl rfl,.inl rfl,.inl rfl,.inl rfl,PLe.int (by push_cast;rfl),trivial⟩,trivial⟩
      ·have hjl:j=l.length:=by omega
       rw[hjl,List.take_length] at hs2
       rw[hjl,List.drop_length,prChk] at g3
       rw[g3,if_neg (by decide)] at h4
       ((conv=>whnf);repeat' ((first|(with_reducible first|apply a_|apply b_|apply c_)|((with_reducible first|apply d_|apply e_|apply f_|apply g_);focus first|omega|(simp only[q_]<;>omega))|((with_reducible first|apply i_|apply h_);focus first|omega|(simp only[q_]<;>omega))|((with_reducible apply h_);focus first|decide|kernel_rfl)|refine s_ (by decide) ?_|refine t_ (by decide) ?_|with_reducible first|apply l_|apply m_|apply n_|apply o_|refine p_ (fun _=>?_) (fun _=>?_))<;>(conv=>whnf)))
       all_goals first
        | (exfalso;omega)
        | skip
       exact⟨k+1,⟨hkL,by show ((L.take (k+1)).flatten).length≤4*(k+1);rw[htf,List.length_append];omega,by show Asc (L.take (k+1)).flatten;rw[htf,← hs2];exact g2,by show _=lvChk m (L.drop (k+1)) (L.take (k+1)).flatten;rw[htf];exact h4⟩,by show L.length - (k+1)<L.length - k;omega,[],rfl,rfl,⟨.inl rfl,PLe.int (by rw[htf,← hs2]),PLe.text (by rw[htf,← hs2]),.inl rfl,.inl rfl,PLe.int (by push_cast;rfl),trivial⟩,trivial⟩
  ·obtain rfl:k=L.length:=by omega
   rw[List.drop_length,lvChk] at h4
   rw[List.take_length]
   rw[h4,if_pos rfl]
   rw[List.take_length] at h2
   ((conv=>whnf);repeat' ((first|(with_reducible first|apply a_|apply b_|apply c_)|((with_reducible first|apply d_|apply e_|apply f_|apply g_);focus first|omega|(simp only[q_]<;>omega))|((with_reducible first|apply i_|apply h_);focus first|omega|(simp only[q_]<;>omega))|((with_reducible apply h_);focus first|decide|kernel_rfl)|refine s_ (by decide) ?_|refine t_ (by decide) ?_|with_reducible first|apply l_|apply m_|apply n_|apply o_|refine p_ (fun _=>?_) (fun _=>?_))<;>(conv=>whnf)))
   all_goals first|exact Ret.mk rfl | (exfalso;omega) | skip
namespace Tr
theorem sum_bound:∀{u:List Int},(∀n∈u,2≤n∧n≤4)→0≤u.sum∧u.sum≤4*(u.length:Int)
 | [],_=>⟨Int.le_refl _,Int.le_refl _⟩
 | x::u,h=>by
  obtain⟨h1,h2⟩:=sum_bound (u:=u) fun n hn=>h n (List.mem_cons_of_mem _ hn)
  have:=h x List.mem_cons_self
  rw[List.sum_cons,List.length_cons];push_cast;omega
end Tr
theorem p_chkup (b:Nat) (Us:List (List Int)) (hb:b≤17592186044416) (hu:∀u∈Us,u.length≤17592186044416) (hU:Us.length≤1000) :
  Pure Try.prog 35 [pInt .i64 b,.d (.c (.sl 1 (upI Us)))] (pInt .i64 (upChk b Us)):=by
 have hUl:(upI Us).length=Us.length:=List.length_map _
 refine pure_of Try.func35 (by rfl) rfl (by kernel_rfl) (by rfl) ?_
 ((conv=>whnf);repeat' ((first|(with_reducible first|apply a_|apply b_|apply c_)|((with_reducible first|apply d_|apply e_|apply f_|apply g_);focus first|omega|(simp only[q_]<;>omega))|((with_reducible first|apply i_|apply h_);focus first|omega|(simp only[q_]<;>omega))|((with_reducible apply h_);focus first|decide|kernel_rfl)|refine s_ (by decide) ?_|refine t_ (by decide) ?_|with_reducible first|apply l_|apply m_|apply n_|apply o_|refine p_ (fun _=>?_) (fun _=>?_))<;>(conv=>whnf)))
 refine LoopC.mk (Nat×Nat) (fun s=>[(0,pInt .i64 s.2),(10,.d (.c (.sl 1 (upI Us)))),(11,pInt .i64 Us.length),(12,pInt .i64 (s.1:Int))]) (fun _=>[]) []
  (fun s=>s.1≤Us.length∧s.2≤17592186044416∧upChk b Us=upChk s.2 (Us.drop s.1)) (fun s=>Us.length - s.1) (0,b) ⟨Nat.zero_le _,hb,rfl⟩ ?start ?round
 case start=>exact⟨[],rfl,rfl,⟨.inl rfl,.inl rfl,PLe.int (by rw[hUl]),.inl rfl,trivial⟩,trivial⟩
 case round=>
  rintro⟨k,c⟩ ⟨h1,h2,h3⟩
  have h1:k≤Us.length:=h1
  have h2:c≤17592186044416:=h2
  have h3:upChk b Us=upChk c (Us.drop k):=h3
  by_cases hkU:k<Us.length
  ·rw[List.drop_eq_getElem_cons hkU,upChk] at h3
   obtain⟨u,hue⟩:∃u,u=Us[k]:=⟨_,rfl⟩
   have hul:u.length≤17592186044416:=by rw[hue];exact hu _ (List.getElem_mem hkU)
   have hrow:(upI Us)[k]? = some [.sl 1 (u.map intC)]:=by
    unfold upI
    rw[List.getElem?_map,List.getElem?_eq_getElem hkU,hue];rfl
   have hum:(u.map intC).length=u.length:=List.length_map _
   rw[← hue] at h3
   by_cases hc2:c<2
   ·rw[if_pos hc2] at h3
    rw[h3]
    ((conv=>whnf);repeat' ((first|(with_reducible first|apply a_|apply b_|apply c_)|((with_reducible first|apply d_|apply e_|apply f_|apply g_);focus first|omega|(simp only[q_]<;>omega))|((with_reducible first|apply i_|apply h_);focus first|omega|(simp only[q_]<;>omega))|((with_reducible apply h_);focus first|decide|kernel_rfl)|refine s_ (by decide) ?_|refine t_ (by decide) ?_|(refine Idx.at' hrow rfl ?_)|with_reducible first|apply l_|apply m_|apply n_|apply o_|refine p_ (fun _=>?_) (fun _=>?_))<;>(conv=>whnf)))
    all_goals first
     | exact Ret.int rfl
     | (exfalso;omega)
     | skip
   ·rw[if_neg hc2] at h3
    ((conv=>whnf);repeat' ((first|(with_reducible first|apply a_|apply b_|apply c_)|((with_reducible first|apply d_|apply e_|apply f_|apply g_);focus first|omega|(simp only[q_]<;>omega))|((with_reducible first|apply i_|apply h_);focus first|omega|(simp only[q_]<;>omega))|((with_reducible apply h_);focus first|decide|kernel_rfl)|refine s_ (by decide) ?_|refine t_ (by decide) ?_|(refine Idx.at' hrow rfl ?_)|with_reducible first|apply l_|apply m_|apply n_|apply o_|refine p_ (fun _=>?_) (fun _=>?_))<;>(conv=>whnf)))
    refine LoopC.mk Nat (fun j=>[(0,pInt .i64 c),(6,.d (.c (.sl 1 (u.map intC)))),(7,pInt .i64 (u.take j).sum),(10,.d (.c (.sl 1 (upI Us)))),(11,pInt .i64 Us.length),(12,pInt .i64 (k:Int)),(18,.d (.c (.sl 1 (u.map intC)))),(19,pInt .i64 u.length),(20,pInt .i64 (j:Int))]) (fun _=>[]) []
     (fun j=>j≤u.length∧∀n∈u.take j,2≤n∧n≤4) (fun j=>u.length - j) 0 ⟨Nat.zero_le _,fun n hn=>(by cases hn)⟩ ?start2 ?round2
    case start2=>exact⟨[],rfl,rfl,⟨.inl rfl,.inl rfl,.inl rfl,.inl rfl,.inl rfl,.inl rfl,.inl rfl,PLe.int (by rw[hum]),.inl rfl,trivial⟩,trivial⟩
    case round2=>
     rintro j ⟨g1,g2⟩
     have g1:j≤u.length:=g1
     have g2:∀n∈u.take j,2≤n∧n≤4:=g2
     have hsb:=sum_bound g2
     rw[List.length_take] at hsb
     by_cases hj:j<u.length
     ·have pf:=p_fitsI u[j]
      by_cases hf:2≤u[j]∧u[j]≤4
      ·rw[decide_eq_true hf] at pf
       have hs1:(u.take (j+1)).sum=(u.take j).sum+u[j]:=by rw[List.take_succ_eq_append_getElem hj,List.sum_append,List.sum_singleton]
       ((conv=>whnf);repeat' ((first|(with_reducible first|apply a_|apply b_|apply c_)|((with_reducible first|apply d_|apply e_|apply f_|apply g_);focus first|omega|(simp only[q_]<;>omega))|((with_reducible first|apply i_|apply h_);focus first|omega|(simp only[q_]<;>omega))|((with_reducible apply h_);focus first|decide|kernel_rfl)|refine s_ (by decide) ?_|refine t_ (by decide) ?_|(refine Idx.mapI (f:=intC) j rfl hj ?_)|refine r_ pf rfl ?_|with_reducible first|apply l_|apply m_|apply n_|apply o_|refine p_ (fun _=>?_) (fun _=>?_))<;>(conv=>whnf)))
       all_goals first
        | (exfalso;omega)
        | skip
       refine⟨j+1,⟨hj,fun n hn=>?_⟩,by show u.length - (j+1)<u.length - j;omega,[],rfl,rfl,⟨.inl rfl,.inl rfl,PLe.int (by rw[hs1]),.inl rfl,.inl rfl,.inl rfl,.inl rfl,.inl rfl,PLe.int (by push_cast;rfl),trivial⟩,trivial⟩
       rw[List.take_succ_eq_append_getElem hj] at hn
       rcases List.mem_append.1 hn with hn | hn
       ·exact g2 n hn
       ·rw[List.mem_singleton] at hn
        subst hn;exact hf
      ·rw[decide_eq_false hf] at pf
       rw[if_neg fun h=>hf (h.1 _ (List.getElem_mem hj))] at h3
       rw[h3]
       ((conv=>whnf);repeat' ((first|(with_reducible first|apply a_|apply b_|apply c_)|((with_reducible first|apply d_|apply e_|apply f_|apply g_);focus first|omega|(simp only[q_]<;>omega))|((with_reducible first|apply i_|apply h_);focus first|omega|(simp only[q_]<;>omega))|((with_reducible apply h_);focus first|decide|kernel_rfl)|refine s_ (by decide) ?_|refine t_ (by decide) ?_|(refine Idx.mapI (f:=intC) j rfl hj ?_)|refine r_ pf rfl ?_|with_reducible first|apply l_|apply m_|apply n_|apply o_|refine p_ (fun _=>?_) (fun _=>?_))<;>(conv=>whnf)))
       all_goals first
        | exact Ret.int rfl
        | (exfalso;omega)
        | skip
     ·have e:u.take j=u:=List.take_of_length_le (by omega)
      rw[e] at g2 hsb ⊢
      by_cases hs:u.sum=c
      ·rw[if_pos ⟨g2,hs⟩] at h3
       ((conv=>whnf);repeat' ((first|(with_reducible first|apply a_|apply b_|apply c_)|((with_reducible first|apply d_|apply e_|apply f_|apply g_);focus first|omega|(simp only[q_]<;>omega))|((with_reducible first|apply i_|apply h_);focus first|omega|(simp only[q_]<;>omega))|((with_reducible apply h_);focus first|decide|kernel_rfl)|refine s_ (by decide) ?_|refine t_ (by decide) ?_|with_reducible first|apply l_|apply m_|apply n_|apply o_|refine p_ (fun _=>?_) (fun _=>?_))<;>(conv=>whnf)))
       all_goals first
        | (exfalso;omega)
        | skip
       exact⟨(k+1,u.length),⟨hkU,hul,h3⟩,by show Us.length - (k+1)<Us.length - k;omega,[],rfl,rfl,⟨PLe.int (by rw[hum]),.inl rfl,.inl rfl,PLe.int (by push_cast;rfl),trivial⟩,trivial⟩
      ·rw[if_neg fun h=>hs h.2] at h3
       rw[h3]
       ((conv=>whnf);repeat' ((first|(with_reducible first|apply a_|apply b_|apply c_)|((with_reducible first|apply d_|apply e_|apply f_|apply g_);focus first|omega|(simp only[q_]<;>omega))|((with_reducible first|apply i_|apply h_);focus first|omega|(simp only[q_]<;>omega))|((with_reducible apply h_);focus first|decide|kernel_rfl)|refine s_ (by decide) ?_|refine t_ (by decide) ?_|with_reducible first|apply l_|apply m_|apply n_|apply o_|refine p_ (fun _=>?_) (fun _=>?_))<;>(conv=>whnf)))
       all_goals first
        | exact Ret.int rfl
        | (exfalso;omega)
        | skip
  ·have hke:k=Us.length:=by omega
   rw[hke,List.drop_length,upChk] at h3
   rw[h3]
   by_cases hc:1<c
   ·rw[if_pos hc]
    ((conv=>whnf);repeat' ((first|(with_reducible first|apply a_|apply b_|apply c_)|((with_reducible first|apply d_|apply e_|apply f_|apply g_);focus first|omega|(simp only[q_]<;>omega))|((with_reducible first|apply i_|apply h_);focus first|omega|(simp only[q_]<;>omega))|((with_reducible apply h_);focus first|decide|kernel_rfl)|refine s_ (by decide) ?_|refine t_ (by decide) ?_|with_reducible first|apply l_|apply m_|apply n_|apply o_|refine p_ (fun _=>?_) (fun _=>?_))<;>(conv=>whnf)))
    all_goals first
     | exact Ret.int rfl
     | (exfalso;omega)
     | skip
   ·rw[if_neg hc]
    ((conv=>whnf);repeat' ((first|(with_reducible first|apply a_|apply b_|apply c_)|((with_reducible first|apply d_|apply e_|apply f_|apply g_);focus first|omega|(simp only[q_]<;>omega))|((with_reducible first|apply i_|apply h_);focus first|omega|(simp only[q_]<;>omega))|((with_reducible apply h_);focus first|decide|kernel_rfl)|refine s_ (by decide) ?_|refine t_ (by decide) ?_|with_reducible first|apply l_|apply m_|apply n_|apply o_|refine p_ (fun _=>?_) (fun _=>?_))<;>(conv=>whnf)))
    all_goals first
     | exact Ret.int rfl
     | (exfalso;omega)
     | skip
structure DataOk (t:TreeD):Prop where
 keys:∀l∈t.Leaves,∀p∈l,p.ok
 leaves:∀l∈t.Leaves,l.length≤140737488351232
 ups:∀u∈t.Up,u.length≤17592186044416
abbrev trD (t:TreeD):PV:=trV t.Leaves t.Up
abbrev chkD (t:TreeD):Int:=chkT t.Leaves t.Up
theorem p_treecheck (t:TreeD) (h:DataOk t):Pure Try.prog 17 [trD t] (pInt .i64 (chkD t)):=by
 obtain⟨h1,h2,h3⟩:=h
 have hLl:(lvC t.Leaves).length=t.Leaves.length:=List.length_map _
 have hUl:(upI t.Up).length=t.Up.length:=List.length_map _
 refine pure_of Try.func17 (by rfl) rfl (by kernel_rfl) (by rfl) ?_
 unfold chkD chkT
 by_cases hm:64<t.Leaves.length∨8<t.Up.length
 ·rw[if_pos hm]
  ((conv=>whnf);repeat' ((first|(with_reducible first|apply a_|apply b_|apply c_)|((with_reducible first|apply d_|apply e_|apply f_|apply g_);focus first|omega|(simp only[q_]<;>omega))|((with_reducible first|apply i_|apply h_);focus first|omega|(simp only[q_]<;>omega))|((with_reducible apply h_);focus first|decide|kernel_rfl)|refine s_ (by decide) ?_|refine t_ (by decide) ?_|with_reducible first|apply l_|apply m_|apply n_|apply o_|refine p_ (fun _=>?_) (fun _=>?_))<;>(conv=>whnf)))
  all_goals first
   | exact Ret.int rfl
   | (exfalso;omega)
   | skip
 ·rw[if_neg hm]
  have p1:=p_chkleaves t.Leaves (by omega) h1 h2
  have p2:=p_chkup t.Leaves.length t.Up (by omega) h3 (by omega)
  rw[← hLl] at p2
  by_cases c1:lvChk t.Leaves.length t.Leaves []≠0
  ·rw[if_pos c1]
   rw[if_neg c1] at p1
   ((conv=>whnf);repeat' ((first|(with_reducible first|apply a_|apply b_|apply c_)|((with_reducible first|apply d_|apply e_|apply f_|apply g_);focus first|omega|(simp only[q_]<;>omega))|((with_reducible first|apply i_|apply h_);focus first|omega|(simp only[q_]<;>omega))|((with_reducible apply h_);focus first|decide|kernel_rfl)|refine s_ (by decide) ?_|refine t_ (by decide) ?_|refine r_ p1 rfl ?_|with_reducible first|apply l_|apply m_|apply n_|apply o_|refine p_ (fun _=>?_) (fun _=>?_))<;>(conv=>whnf)))
   all_goals first
    | exact Ret.int rfl
    | (exfalso;omega)
    | skip
  ·rw[if_neg c1]
   have c1:lvChk t.Leaves.length t.Leaves []=0:=Decidable.of_not_not c1
   rw[if_pos c1,c1] at p1
   rw[hLl] at p2
   by_cases c2:upChk t.Leaves.length t.Up≠0
   ·rw[if_pos c2]
    have c3:upChk t.Leaves.length t.Up=1:=by
     have:∀(us:List (List Int)) (b:Nat),upChk b us=0∨upChk b us=1:=fun us=>by
      induction us with
      | nil=>
       intro b
       rw[upChk]
       split
       ·exact .inr rfl
       ·exact .inl rfl
      | cons u us ih=>
       intro b
       rw[upChk]
       split
       ·exact .inr rfl
       ·split
        ·exact ih _
        ·exact .inr rfl
     exact (this t.Up _).resolve_left c2
    rw[c3] at p2
    rw[← hLl] at p2
    ((conv=>whnf);repeat' ((first|(with_reducible first|apply a_|apply b_|apply c_)|((with_reducible first|apply d_|apply e_|apply f_|apply g_);focus first|omega|(simp only[q_]<;>omega))|((with_reducible first|apply i_|apply h_);focus first|omega|(simp only[q_]<;>omega))|((with_reducible apply h_);focus first|decide|kernel_rfl)|refine s_ (by decide) ?_|refine t_ (by decide) ?_|refine r_ p1 rfl ?_|refine r_ p2 rfl ?_|with_reducible first|apply l_|apply m_|apply n_|apply o_|refine p_ (fun _=>?_) (fun _=>?_))<;>(conv=>whnf)))
    all_goals first
     | exact Ret.int rfl
     | (exfalso;omega)
     | skip
   ·rw[if_neg c2]
    rw[Decidable.of_not_not c2] at p2
    rw[← hLl] at p2
    by_cases c4:64<t.Leaves.flatten.length
    ·rw[if_pos c4]
     ((conv=>whnf);repeat' ((first|(with_reducible first|apply a_|apply b_|apply c_)|((with_reducible first|apply d_|apply e_|apply f_|apply g_);focus first|omega|(simp only[q_]<;>omega))|((with_reducible first|apply i_|apply h_);focus first|omega|(simp only[q_]<;>omega))|((with_reducible apply h_);focus first|decide|kernel_rfl)|refine s_ (by decide) ?_|refine t_ (by decide) ?_|refine r_ p1 rfl ?_|refine r_ p2 rfl ?_|with_reducible first|apply l_|apply m_|apply n_|apply o_|refine p_ (fun _=>?_) (fun _=>?_))<;>(conv=>whnf)))
     all_goals first
      | exact Ret.int rfl
      | (exfalso;omega)
      | skip
    ·rw[if_neg c4]
     ((conv=>whnf);repeat' ((first|(with_reducible first|apply a_|apply b_|apply c_)|((with_reducible first|apply d_|apply e_|apply f_|apply g_);focus first|omega|(simp only[q_]<;>omega))|((with_reducible first|apply i_|apply h_);focus first|omega|(simp only[q_]<;>omega))|((with_reducible apply h_);focus first|decide|kernel_rfl)|refine s_ (by decide) ?_|refine t_ (by decide) ?_|refine r_ p1 rfl ?_|refine r_ p2 rfl ?_|with_reducible first|apply l_|apply m_|apply n_|apply o_|refine p_ (fun _=>?_) (fun _=>?_))<;>(conv=>whnf)))
     all_goals first
      | exact Ret.int rfl
      | (exfalso;omega)
      | skip
end Go.Proofs.Ythejollbijglcaa.Pm
end
section
namespace Go.Proofs.Ythejollbijglcaa.Pm
open Go.RowKit K
set_option maxRecDepth 100000
set_option maxRecDepth 100000
open Tr
namespace Tr
def sideF (u:List Nat) (at_:Nat):Nat:=if at_+1=(u.take (nodeF u at_+1)).sum then at_ - 1 else at_+1
def mendU:List Nat→List (List Nat)→Nat→List (List Nat)
 | cur,[],at_=>if cur.getD at_ 0=1 then [] else [cur]
 | cur,u::us,at_=>if 2≤cur.getD at_ 0 then cur::u::us
  else if 2<cur.getD (sideF u at_) 0 then ((cur.set (sideF u at_) (cur.getD (sideF u at_) 0 - 1)).set at_ (cur.getD at_ 0+1))::u::us
  else ((cur.set (min at_ (sideF u at_)) (cur.getD (min at_ (sideF u at_)) 0+cur.getD (min at_ (sideF u at_)+1) 0)).eraseIdx (min at_ (sideF u at_)+1))::mendU (u.set (nodeF u at_) (u.getD (nodeF u at_) 0 - 1)) us (nodeF u at_)
abbrev LU:=List (List PairD)×List (List Nat)
def handL (L:List (List PairD)) (at_ side:Nat):List (List PairD):=
 if at_<side then (L.set at_ (L.getD at_ []++(L.getD side []).take 1)).set side ((L.getD side []).drop 1)
 else (L.set at_ ((L.getD side []).drop ((L.getD side []).length - 1)++L.getD at_ [])).set side ((L.getD side []).take ((L.getD side []).length - 1))
def joinL (L:List (List PairD)) (m:Nat):List (List PairD):=(L.set m (L.getD m []++L.getD (m+1) [])).eraseIdx (m+1)
def mendL (L:List (List PairD)):List (List Nat)→Nat→LU
 | [],_=>(L,[])
 | u::us,at_=>if 2≤(L.getD at_ []).length then (L,u::us)
  else if 2<(L.getD (sideF u at_) []).length then (handL L at_ (sideF u at_),u::us)
  else (joinL L (min at_ (sideF u at_)),mendU (u.set (nodeF u at_) (u.getD (nodeF u at_) 0 - 1)) us (nodeF u at_))
section
variable {α:Type} {P Q:List α} {x s:α}
theorem two_at (d:α):(P++[x,s]++Q).getD P.length d=x∧(P++[x,s]++Q).getD (P.length+1) d=s:=by
 refine⟨?_,?_⟩
 ·rw[List.getD_eq_getElem?_getD,List.append_assoc,List.getElem?_append_right (Nat.le_refl _),Nat.sub_self];rfl
 ·rw[List.getD_eq_getElem?_getD,List.append_assoc,List.getElem?_append_right (by omega),show P.length+1 - P.length=1 by omega];rfl
theorem two_set1 (y:α):(P++[x,s]++Q).set P.length y=P++[y,s]++Q:=by
 rw[List.append_assoc,List.set_append_right _ _ (Nat.le_refl _),Nat.sub_self,List.append_assoc];rfl
theorem two_set2 (y:α):(P++[x,s]++Q).set (P.length+1) y=P++[x,y]++Q:=by
 rw[List.append_assoc,List.set_append_right _ _ (by omega),show P.length+1 - P.length=1 by omega,List.append_assoc];rfl
theorem two_del:(P++[x,s]++Q).eraseIdx (P.length+1)=P++[x]++Q:=by
 rw[List.append_assoc,List.eraseIdx_append_of_length_le (by omega),show P.length+1 - P.length=1 by omega,List.append_assoc];rfl
end
end Tr
end Go.Proofs.Ythejollbijglcaa.Pm
end
section
namespace Go.Proofs.Ythejollbijglcaa.Pm
open Go.RowKit K
set_option maxRecDepth 100000
set_option maxRecDepth 100000
open Tr
namespace Tr
def delF (L:List (List PairD)) (U:List (List Nat)) (a:Nat) (key:List UInt8):LU:=
 if delP (L.getD a []) key=[] then ([],[]) else mendL (L.set a (delP (L.getD a []) key)) U a
def good:Nat→Nest→Prop
 | 0,.leaf ps=>2≤ps.length∧ps.length≤4
 | h+1,.node ks=>2≤ks.length∧ks.length≤4∧∀k∈ks,good h k
 | _,_=>False
def near:Nat→Nest→Prop
 | 0,.leaf ps=>1≤ps.length∧ps.length≤4
 | h+1,.node ks=>1≤ks.length∧ks.length≤4∧∀k∈ks,good h k
 | _,_=>False
end Tr
end Go.Proofs.Ythejollbijglcaa.Pm
end
section
namespace Go.Proofs.Ythejollbijglcaa.Pm
open Go.RowKit K
set_option maxRecDepth 100000
set_option maxRecDepth 100000
open Tr
namespace Tr
theorem nodeF_spec:∀(u:List Nat) (a:Nat),a<u.sum→nodeF u a<u.length∧(u.take (nodeF u a)).sum≤a∧a<(u.take (nodeF u a+1)).sum
 | [],a,h=>absurd h (Nat.not_lt_zero a)
 | x::u,a,h=>by
  rw[List.sum_cons] at h
  rw[nodeF]
  by_cases hx:a<x
  ·rw[if_pos hx]
   exact⟨Nat.zero_lt_succ _,Nat.zero_le _,by simpa using hx⟩
  ·rw[if_neg hx]
   obtain⟨h1,h2,h3⟩:=nodeF_spec u (a - x) (by omega)
   refine⟨by rw[List.length_cons];omega,?_,?_⟩
   ·rw[List.take_succ_cons,List.sum_cons];omega
   ·rw[List.take_succ_cons,List.sum_cons];omega
end Tr
end Go.Proofs.Ythejollbijglcaa.Pm
end
namespace Go.Proofs.Ythejollbijglcaa.Pm
section
open Go.RowKit K
set_option maxRecDepth 100000
set_option maxRecDepth 100000
open Tr
theorem s_leafRo (L:List (List PairD)) (U:List (List Nat)) (hv:OkT L U) (ht:lenAt L U U.length=1) (key:List UInt8) (hL:∀l∈L,∀p∈l,p.ok) :
  CallS Try.prog 31 [.d (.ptr FK 0),pStr (tx key)] [(FK,.box 61 [.c (.sl 1 (lvC L)),.c (.sl 1 (upC U))])] [] (pInt .i64 (leafF L U key U.length 0)) []:=
 lend (p_leaf L U hv ht key hL) (plainR_int _ _) ⟨.inr ⟨FK,_,_,_,rfl,rfl,rfl,rfl⟩,.inl rfl,trivial⟩
def findE (t:TreeD) (key:List UInt8):Int:=if chkD t≠0 then chkD t else if 40<key.length then 2 else 0
def findI (t:TreeD) (key:List UInt8):Int:=if findE t key≠0 then 0 else (lookP t.Leaves.flatten key).getD 0
def findB (t:TreeD) (key:List UInt8):Bool:=decide (findE t key=0)&&(lookP t.Leaves.flatten key).isSome
abbrev findV (t:TreeD) (key:List UInt8):PV:=.tup [pInt .i64 (findI t key),pBool (findB t key),pInt .i64 (findE t key)]
theorem p_Find (t:TreeD) (h:DataOk t) (key:List UInt8) (hkl:key.length≤140737488351232):Pure Try.prog 14 [trD t,pStr (tx key)] (findV t key):=by
 rcases t with ⟨L,Us⟩
 have pc:Pure Try.prog 17 [.agg [.c (.sl 1 (lvC L)),.c (.sl 1 (upI Us))]] (pInt .i64 (chkT L Us)):=p_treecheck ⟨L,Us⟩ h
 have hkeys:∀l∈L,∀p∈l,p.ok:=h.keys
 have hLl:(lvC L).length=L.length:=List.length_map _
 have hks:(tx key).size=key.length:=rfl
 show Pure _ _ [.agg [.c (.sl 1 (lvC L)),.c (.sl 1 (upI Us))],pStr (tx key)] (.tup [pInt .i64 (findI ⟨L,Us⟩ key),pBool (findB ⟨L,Us⟩ key),pInt .i64 (findE ⟨L,Us⟩ key)])
 refine pure_of Try.func14 (by rfl) rfl (by kernel_rfl) (by rfl) ?_
 have hd:chkD ⟨L,Us⟩=chkT L Us:=rfl
 by_cases c1:chkT L Us≠0
 ·have e1:findE ⟨L,Us⟩ key=chkT L Us:=if_pos c1
  have e2:findI ⟨L,Us⟩ key=0:=by unfold findI;rw[if_pos (by rw[e1];exact c1)]
  have e3:findB ⟨L,Us⟩ key=false:=by unfold findB;rw[e1,decide_eq_false c1];rfl
  rw[e1,e2,e3]
  ((conv=>whnf);repeat' ((first|(with_reducible first|apply a_|apply b_|apply c_)|((with_reducible first|apply d_|apply e_|apply f_|apply g_);focus first|omega|(simp only[q_]<;>omega))|((with_reducible first|apply i_|apply h_);focus first|omega|(simp only[q_]<;>omega))|((with_reducible apply h_);focus first|decide|kernel_rfl)|refine s_ (by decide) ?_|refine t_ (by decide) ?_|refine r_ pc rfl ?_|with_reducible first|apply l_|apply m_|apply n_|apply o_|refine p_ (fun _=>?_) (fun _=>?_))<;>(conv=>whnf)))
  all_goals first
   | exact Ret.mk rfl
   | (exfalso;omega)
   | skip
 ·have c1:chkT L Us=0:=Decidable.of_not_not c1
  rw[c1] at pc
  by_cases c2:40<key.length
  ·have e1:findE ⟨L,Us⟩ key=2:=by unfold findE;rw[if_neg (not_not_intro c1),if_pos c2]
   have e2:findI ⟨L,Us⟩ key=0:=by unfold findI;rw[if_pos (by rw[e1];decide)]
   have e3:findB ⟨L,Us⟩ key=false:=by unfold findB;rw[e1];rfl
   rw[e1,e2,e3]
   ((conv=>whnf);repeat' ((first|(with_reducible first|apply a_|apply b_|apply c_)|((with_reducible first|apply d_|apply e_|apply f_|apply g_);focus first|omega|(simp only[q_]<;>omega))|((with_reducible first|apply i_|apply h_);focus first|omega|(simp only[q_]<;>omega))|((with_reducible apply h_);focus first|decide|kernel_rfl)|refine s_ (by decide) ?_|refine t_ (by decide) ?_|refine r_ pc rfl ?_|with_reducible first|apply l_|apply m_|apply n_|apply o_|refine p_ (fun _=>?_) (fun _=>?_))<;>(conv=>whnf)))
   all_goals first
    | exact Ret.mk rfl
    | (exfalso;omega)
    | skip
  ·have e1:findE ⟨L,Us⟩ key=0:=by unfold findE;rw[if_neg (not_not_intro c1),if_neg c2]
   have e2:findI ⟨L,Us⟩ key=(lookP L.flatten key).getD 0:=by unfold findI;rw[if_neg (not_not_intro e1)]
   have e3:findB ⟨L,Us⟩ key=(lookP L.flatten key).isSome:=by unfold findB;rw[e1];rfl
   rw[e1,e2,e3]
   by_cases hL:L=[]
   ·subst hL
    have hl0:lookP ([]:List (List PairD)).flatten key=none:=rfl
    rw[hl0]
    ((conv=>whnf);repeat' ((first|(with_reducible first|apply a_|apply b_|apply c_)|((with_reducible first|apply d_|apply e_|apply f_|apply g_);focus first|omega|(simp only[q_]<;>omega))|((with_reducible first|apply i_|apply h_);focus first|omega|(simp only[q_]<;>omega))|((with_reducible apply h_);focus first|decide|kernel_rfl)|refine s_ (by decide) ?_|refine t_ (by decide) ?_|refine r_ pc rfl ?_|with_reducible first|apply l_|apply m_|apply n_|apply o_|refine p_ (fun _=>?_) (fun _=>?_))<;>(conv=>whnf)))
    all_goals first
     | exact Ret.mk rfl
     | (exfalso;simp only[List.length_nil] at hLl;omega)
     | skip
   ·obtain⟨U,hU,hok⟩:=chk_ok c1
    have hLpos:0<L.length:=List.length_pos_iff.2 hL
    have hat:=hok.at_ hL key
    rw[look_flat hat hok.ne hok.asc]
    have sl:=s_leafRo L U hok.okT (hok.top hL).1 key hkeys
    obtain⟨a,ha⟩:∃a,a=leafF L U key U.length 0:=⟨_,rfl⟩
    rw[← ha] at sl hat ⊢
    have hal:=hat.lt
    have hg:L.getD a []=L[a]:=by rw[List.getD_eq_getElem?_getD,List.getElem?_eq_getElem hal];rfl
    obtain⟨l,hle⟩:∃l,l=L[a]:=⟨_,rfl⟩
    have hmem:l∈L:=by rw[hle];exact List.getElem_mem hal
    rw[hg,← hle]
    have hasc:Asc l:=(List.pairwise_flatten.1 hok.asc).1 l hmem
    have hl4:=(hok.sizes l hmem).2.2
    have hrow:(lvC L)[a]? = some [.sl 2 (l.map PairD.c)]:=by
     unfold lvC
     rw[List.getElem?_map,List.getElem?_eq_getElem hal,hle];rfl
    have ps:=p_seek l hasc (by omega) key
    obtain⟨hp1,hp2⟩:=hit_pos (key:=key) hasc
    rw[hU,upI_int] at pc ⊢
    by_cases hh:hitF l key=true
    ·obtain⟨q,hq1,hq2⟩:=hp1.1 hh
     obtain⟨hpl,hpq,_⟩:=hp2 q hq1 hq2
     have hlk:lookP l key=some q.Id:=by rw[← hq2];exact look_mem hasc hq1
     rw[hlk]
     rw[hh] at ps
     have hqi:(l[posF l key]).Id=q.Id:=by rw[hpq]
     ((conv=>whnf);repeat' ((first|(with_reducible first|apply a_|apply b_|apply c_)|((with_reducible first|apply d_|apply e_|apply f_|apply g_);focus first|omega|(simp only[q_]<;>omega))|((with_reducible first|apply i_|apply h_);focus first|omega|(simp only[q_]<;>omega))|((with_reducible apply h_);focus first|decide|kernel_rfl)|refine s_ (by decide) ?_|refine t_ (by decide) ?_|refine r_ pc rfl ?_|(refine CallP.ret [(FK,33)] _ _ _ _ _ _ _ sl rfl rfl rfl rfl ⟨rfl,trivial⟩ ?_)|refine r_ ps rfl ?_|(refine Idx.at' hrow rfl ?_)|(refine Idx.mapI (f:=PairD.c) (posF l key) rfl hpl ?_)|with_reducible first|apply l_|apply m_|apply n_|apply o_|refine p_ (fun _=>?_) (fun _=>?_))<;>(conv=>whnf)))
     all_goals first
      | exact Ret.mk (by show _=PV.tup [pInt .i64 q.Id,pBool true,pInt .i64 0];rw[← hqi])
      | (exfalso;omega)
      | skip
    ·have hh:hitF l key=false:=Bool.eq_false_iff.2 hh
     have hlk:lookP l key=none:=look_none.2 fun q hq e=>by
      rw[hp1.2 ⟨q,hq,e⟩] at hh
      cases hh
     rw[hlk]
     rw[hh] at ps
     ((conv=>whnf);repeat' ((first|(with_reducible first|apply a_|apply b_|apply c_)|((with_reducible first|apply d_|apply e_|apply f_|apply g_);focus first|omega|(simp only[q_]<;>omega))|((with_reducible first|apply i_|apply h_);focus first|omega|(simp only[q_]<;>omega))|((with_reducible apply h_);focus first|decide|kernel_rfl)|refine s_ (by decide) ?_|refine t_ (by decide) ?_|refine r_ pc rfl ?_|(refine CallP.ret [(FK,33)] _ _ _ _ _ _ _ sl rfl rfl rfl rfl ⟨rfl,trivial⟩ ?_)|refine r_ ps rfl ?_|(refine Idx.at' hrow rfl ?_)|with_reducible first|apply l_|apply m_|apply n_|apply o_|refine p_ (fun _=>?_) (fun _=>?_))<;>(conv=>whnf)))
     all_goals first
      | exact Ret.mk rfl
      | (exfalso;omega)
      | skip
end
section
open Go.RowKit K
set_option maxRecDepth 100000
open Tr
theorem del_rows {α:Type} (rows:List α) {i:Nat} (hi:i<rows.length):(rows.take i++(rows.drop (i+1)).take (rows.length - (i+1))++rows.drop (i+((rows.drop (i+1)).take (rows.length - (i+1))).length)).take (i+(rows.length - (i+1)))=rows.take i++rows.drop (i+1):=by
 have e:(rows.drop (i+1)).take (rows.length - (i+1))=rows.drop (i+1):=List.take_of_length_le (by rw[List.length_drop];omega)
 rw[e,List.take_append_of_le_length (by rw[List.length_append,List.length_take,List.length_drop];omega),List.take_of_length_le (by rw[List.length_append,List.length_take,List.length_drop];omega)]
theorem hon_sub {p:Nat→Prop} {e sz:Nat} {rows rows':List (List D)} (h:hon p (.darr e sz rows)) (hs:∀r∈rows',r∈rows):hon p (.darr e sz rows'):=fun r hr=>h r (hs r hr)
theorem hon_put {p:Nat→Prop} {e sz i j:Nat} {rows v:List (List D)} (h:hon p (.darr e sz rows)) (hv:hon p (.darr e sz v)):hon p (.darr e sz (rows.take i++v++rows.drop j)):=fun r hr=>by
 rcases List.mem_append.1 hr with hr | hr
 ·rcases List.mem_append.1 hr with hr | hr
  ·exact h r (List.mem_of_mem_take hr)
  ·exact hv r hr
 ·exact h r (List.mem_of_mem_drop hr)
theorem hon_cs (p:Nat→Prop) (e sz:Nat) (l:List (List C)):hon p (.darr e sz (l.map (List.map D.c))):=fun r hr x hx=>by
 obtain⟨r0,_,rfl⟩:=List.mem_map.1 hr
 obtain⟨x0,_,rfl⟩:=List.mem_map.1 hx
 trivial
theorem del_sub {α:Type} {rows:List α} {i:Nat}:∀r∈rows.take i++rows.drop (i+1),r∈rows:=fun r hr=>by
 rcases List.mem_append.1 hr with hr | hr
 ·exact List.mem_of_mem_take hr
 ·exact List.mem_of_mem_drop hr
theorem rep1 (rows v:List (List D)) {i j:Nat} (hj:rows.length≤j) (hv:j≤i+v.length):putRows rows i v=rows.take i++v++rows.drop j:=by
 unfold putRows
 rw[List.drop_of_length_le (show rows.length≤i+v.length by omega),List.drop_of_length_le hj]
theorem rep1' (rows v:List (List D)) {i j:Nat} (hj:rows.length≤j):rows.take i++v=rows.take i++v++rows.drop j:=by
 rw[List.drop_of_length_le hj,List.append_nil]
theorem rep2 (rows v:List (List D)) {i j:Nat} (hi:i≤rows.length) (hj:j≤rows.length):putRows (putRows (rows.take i) i v) (i+v.length) ((rows.drop j).take (rows.length - j))=rows.take i++v++rows.drop j:=by
 have e:(rows.drop j).take (rows.length - j)=rows.drop j:=List.take_of_length_le (by rw[List.length_drop];omega)
 have e1:putRows (rows.take i) i v=rows.take i++v:=by
  unfold putRows
  rw[List.take_take,Nat.min_self,List.drop_of_length_le (l:=rows.take i) (by rw[List.length_take];omega),List.append_nil]
 have hl:(rows.take i++v).length=i+v.length:=by rw[List.length_append,List.length_take];omega
 rw[e,e1]
 unfold putRows
 rw[List.take_of_length_le (by omega),List.drop_of_length_le (l:=rows.take i++v) (by omega),List.append_nil]
theorem rep3 (rows v:List (List D)) {i j:Nat} (hi:i+v.length≤rows.length) (hj:j≤rows.length) (hv:j≤i+v.length):putRows (putRows rows (i+v.length) ((rows.drop j).take (rows.length - j))) i v=rows.take i++v++rows.drop j:=by
 have e:(rows.drop j).take (rows.length - j)=rows.drop j:=List.take_of_length_le (by rw[List.length_drop];omega)
 have e1:putRows rows (i+v.length) (rows.drop j)=rows.take (i+v.length)++rows.drop j:=by
  unfold putRows
  rw[List.drop_of_length_le (l:=rows) (i:=i+v.length+(rows.drop j).length) (by rw[List.length_drop];omega),List.append_nil]
 have hl:(rows.take (i+v.length)).length=i+v.length:=by rw[List.length_take];omega
 rw[e,e1]
 unfold putRows
 rw[List.take_append_of_le_length (by omega),List.take_take,Nat.min_eq_left (by omega),List.drop_append_of_le_length (by omega),List.drop_of_length_le (by omega),List.nil_append]
theorem s_del_int (rows:List (List D)) (i:Nat) (hi:i<rows.length) (hm:rows.length≤1000) (hrw:hon (·∈nT) (.darr 3 1 rows)) (R:Rf) (hR:Fam R) :
  CallS Try.prog 80 [.d (.arr FK 3 1 0 rows.length),pInt .i64 i,pInt .i64 ((i+1:Nat):Int)] R [(FK,.darr 3 1 rows)] (.d (.arr NK 3 1 0 (rows.length - 1))) [(NK,.darr 3 1 (rows.take i++rows.drop (i+1)))]:=by
 refine CallS.full (by omega) fun c hc=>?_
 refine callS_in Try.func80 (by rfl) rfl (by kernel_rfl) (by rfl) ([FK]++nT) (fun k hk=>?_) ?_
 ·rw[List.map_append] at hk
  rcases List.mem_append.1 hk with hk | hk
  ·exact List.mem_append_right _ (hR.key k hk)
  ·exact List.mem_append_left _ hk
 rw[hR.swap rfl]
 ((conv=>whnf);repeat' ((first|(with_reducible first|apply a_|apply b_|apply c_)|((with_reducible first|apply d_|apply e_|apply f_|apply g_);focus first|omega|(simp only[q_]<;>omega))|((with_reducible first|apply i_|apply h_);focus first|omega|(simp only[q_]<;>omega))|((with_reducible apply h_);focus first|decide|kernel_rfl)|refine s_ (by decide) ?_|refine t_ (by decide) ?_|with_reducible first|apply l_|apply m_|apply n_|apply o_|refine p_ (fun _=>?_) (fun _=>?_))<;>(conv=>whnf)))
 refine Need.by3 8 rfl (by dsimp only;omega) ?_
 ((conv=>whnf);repeat' ((first|(with_reducible first|apply a_|apply b_|apply c_)|((with_reducible first|apply d_|apply e_|apply f_|apply g_);focus first|omega|(simp only[q_]<;>omega))|((with_reducible first|apply i_|apply h_);focus first|omega|(simp only[q_]<;>omega))|((with_reducible apply h_);focus first|decide|kernel_rfl)|refine s_ (by decide) ?_|refine t_ (by decide) ?_|(refine CapC.mk (fun room=>?_) (fun grow=>absurd grow (by dsimp only;omega)))|with_reducible first|apply l_|apply m_|apply n_|apply o_|refine p_ (fun _=>?_) (fun _=>?_))<;>(conv=>whnf)))
 refine ret_fam hR [FK] [(NK,FK)] rfl (fun q hq=>?_) ⟨⟨_,rfl,?_⟩,trivial⟩ ?_
 ·have hk:=(hR.keys q hq).1
  repeat (first|exact hR.past (a:=[(FK,_)]) rfl hq|refine app_fam rfl hk ?_)
 ·refine hle_rows rfl ?_ (hon_sub hrw del_sub)
  simp only[Int.toNat_natCast,Int.toNat_zero,Nat.zero_add,Nat.sub_zero,List.drop_zero,List.take_zero]
  exact del_rows rows hi
 ·exact⟨rfl,rfl,rfl,rfl,rfl,by simp only[Int.toNat_natCast,Int.toNat_zero,Nat.zero_add,Nat.sub_zero,List.drop_zero,List.take_zero];omega⟩
theorem s_del_pair (rows:List (List D)) (i:Nat) (hi:i<rows.length) (hm:rows.length≤1000) (hrw:hon (·∈nT) (.darr 38 2 rows)) (R:Rf) (hR:Fam R) :
  CallS Try.prog 43 [.d (.arr FK 38 2 0 rows.length),pInt .i64 i,pInt .i64 ((i+1:Nat):Int)] R [(FK,.darr 38 2 rows)] (.d (.arr NK 38 2 0 (rows.length - 1))) [(NK,.darr 38 2 (rows.take i++rows.drop (i+1)))]:=by
 refine CallS.full (by omega) fun c hc=>?_
 refine callS_in Try.func43 (by rfl) rfl (by kernel_rfl) (by rfl) ([FK]++nT) (fun k hk=>?_) ?_
 ·rw[List.map_append] at hk
  rcases List.mem_append.1 hk with hk | hk
  ·exact List.mem_append_right _ (hR.key k hk)
  ·exact List.mem_append_left _ hk
 rw[hR.swap rfl]
 ((conv=>whnf);repeat' ((first|(with_reducible first|apply a_|apply b_|apply c_)|((with_reducible first|apply d_|apply e_|apply f_|apply g_);focus first|omega|(simp only[q_]<;>omega))|((with_reducible first|apply i_|apply h_);focus first|omega|(simp only[q_]<;>omega))|((with_reducible apply h_);focus first|decide|kernel_rfl)|refine s_ (by decide) ?_|refine t_ (by decide) ?_|with_reducible first|apply l_|apply m_|apply n_|apply o_|refine p_ (fun _=>?_) (fun _=>?_))<;>(conv=>whnf)))
 refine Need.by3 24 rfl (by dsimp only;omega) ?_
 ((conv=>whnf);repeat' ((first|(with_reducible first|apply a_|apply b_|apply c_)|((with_reducible first|apply d_|apply e_|apply f_|apply g_);focus first|omega|(simp only[q_]<;>omega))|((with_reducible first|apply i_|apply h_);focus first|omega|(simp only[q_]<;>omega))|((with_reducible apply h_);focus first|decide|kernel_rfl)|refine s_ (by decide) ?_|refine t_ (by decide) ?_|(refine CapC.mk (fun room=>?_) (fun grow=>absurd grow (by dsimp only;omega)))|with_reducible first|apply l_|apply m_|apply n_|apply o_|refine p_ (fun _=>?_) (fun _=>?_))<;>(conv=>whnf)))
 refine ret_fam hR [FK] [(NK,FK)] rfl (fun q hq=>?_) ⟨⟨_,rfl,?_⟩,trivial⟩ ?_
 ·have hk:=(hR.keys q hq).1
  repeat (first|exact hR.past (a:=[(FK,_)]) rfl hq|refine app_fam rfl hk ?_)
 ·refine hle_rows rfl ?_ (hon_sub hrw del_sub)
  simp only[Int.toNat_natCast,Int.toNat_zero,Nat.zero_add,Nat.sub_zero,List.drop_zero,List.take_zero]
  exact del_rows rows hi
 ·exact⟨rfl,rfl,rfl,rfl,rfl,by simp only[Int.toNat_natCast,Int.toNat_zero,Nat.zero_add,Nat.sub_zero,List.drop_zero,List.take_zero];omega⟩
theorem s_del_leaf (rows:List (List D)) (i:Nat) (hi:i<rows.length) (hm:rows.length≤1000) (hrw:hon (·∈nT) (.darr 28 1 rows)) (R:Rf) (hR:Fam R) :
  CallS Try.prog 79 [.d (.arr FK 28 1 0 rows.length),pInt .i64 i,pInt .i64 ((i+1:Nat):Int)] R [(FK,.darr 28 1 rows)] (.d (.arr NK 28 1 0 (rows.length - 1))) [(NK,.darr 28 1 (rows.take i++rows.drop (i+1)))]:=by
 refine CallS.full (by omega) fun c hc=>?_
 refine callS_in Try.func79 (by rfl) rfl (by kernel_rfl) (by rfl) ([FK]++nT) (fun k hk=>?_) ?_
 ·rw[List.map_append] at hk
  rcases List.mem_append.1 hk with hk | hk
  ·exact List.mem_append_right _ (hR.key k hk)
  ·exact List.mem_append_left _ hk
 rw[hR.swap rfl]
 ((conv=>whnf);repeat' ((first|(with_reducible first|apply a_|apply b_|apply c_)|((with_reducible first|apply d_|apply e_|apply f_|apply g_);focus first|omega|(simp only[q_]<;>omega))|((with_reducible first|apply i_|apply h_);focus first|omega|(simp only[q_]<;>omega))|((with_reducible apply h_);focus first|decide|kernel_rfl)|refine s_ (by decide) ?_|refine t_ (by decide) ?_|with_reducible first|apply l_|apply m_|apply n_|apply o_|refine p_ (fun _=>?_) (fun _=>?_))<;>(conv=>whnf)))
 refine Need.by3 24 rfl (by dsimp only;omega) ?_
 ((conv=>whnf);repeat' ((first|(with_reducible first|apply a_|apply b_|apply c_)|((with_reducible first|apply d_|apply e_|apply f_|apply g_);focus first|omega|(simp only[q_]<;>omega))|((with_reducible first|apply i_|apply h_);focus first|omega|(simp only[q_]<;>omega))|((with_reducible apply h_);focus first|decide|kernel_rfl)|refine s_ (by decide) ?_|refine t_ (by decide) ?_|(refine CapC.mk (fun room=>?_) (fun grow=>absurd grow (by dsimp only;omega)))|with_reducible first|apply l_|apply m_|apply n_|apply o_|refine p_ (fun _=>?_) (fun _=>?_))<;>(conv=>whnf)))
 refine ret_fam hR [FK] [(NK,FK)] rfl (fun q hq=>?_) ⟨⟨_,rfl,?_⟩,trivial⟩ ?_
 ·have hk:=(hR.keys q hq).1
  repeat (first|exact hR.past (a:=[(FK,_)]) rfl hq|refine app_fam rfl hk ?_)
 ·refine hle_rows rfl ?_ (hon_sub hrw del_sub)
  simp only[Int.toNat_natCast,Int.toNat_zero,Nat.zero_add,Nat.sub_zero,List.drop_zero,List.take_zero]
  exact del_rows rows hi
 ·exact⟨rfl,rfl,rfl,rfl,rfl,by simp only[Int.toNat_natCast,Int.toNat_zero,Nat.zero_add,Nat.sub_zero,List.drop_zero,List.take_zero];omega⟩
theorem ov_int:ovlX Try.prog 75:=⟨_,54,4,3,_,Try.func75,by kernel_rfl,by kernel_rfl,by kernel_rfl,by kernel_rfl,by rfl,by rfl⟩
theorem ov_pair:ovlX Try.prog 57:=⟨_,28,4,38,_,Try.func57,by kernel_rfl,by kernel_rfl,by kernel_rfl,by kernel_rfl,by rfl,by rfl⟩
theorem ov_leaf:ovlX Try.prog 71:=⟨_,22,4,28,_,Try.func71,by kernel_rfl,by kernel_rfl,by kernel_rfl,by kernel_rfl,by rfl,by rfl⟩
theorem s_rep_int (rows:List (List D)) (i:Nat) (hi:i<rows.length) (hm:rows.length≤1000) (hrw:hon (·∈nT) (.darr 3 1 rows)) (a b:List D) (hv:hon (·∈nT) (.darr 3 1 [a,b])) (R:Rf) (hR:Fam R) :
  CallS Try.prog 60 [.d (.arr FK 3 1 0 rows.length),pInt .i64 i,pInt .i64 ((i+1:Nat):Int),.d (.arr FK1 3 1 0 2)] R [(FK,.darr 3 1 rows),(FK1,.darr 3 1 [a,b])] (.d (.arr NK 3 1 0 (rows.length+1)))
   [(NK,.darr 3 1 (rows.take i++[a,b]++rows.drop (i+1)))]:=by
 refine CallS.full (by omega) fun c hc=>?_
 refine callS_in Try.func60 (by rfl) rfl (by kernel_rfl) (by rfl) ([FK,FK1]++nT) (fun k hk=>?_) ?_
 ·rw[List.map_append] at hk
  rcases List.mem_append.1 hk with hk | hk
  ·exact List.mem_append_right _ (hR.key k hk)
  ·exact List.mem_append_left _ hk
 rw[hR.swap rfl]
 ((conv=>whnf);repeat' ((first|(with_reducible first|apply a_|apply b_|apply c_)|((with_reducible first|apply d_|apply e_|apply f_|apply g_);focus first|omega|(simp only[q_]<;>omega))|((with_reducible first|apply i_|apply h_);focus first|omega|(simp only[q_]<;>omega))|((with_reducible apply h_);focus first|decide|kernel_rfl)|refine s_ (by decide) ?_|refine t_ (by decide) ?_|with_reducible first|apply l_|apply m_|apply n_|apply o_|refine p_ (fun _=>?_) (fun _=>?_))<;>(conv=>whnf)))
 ·refine Need.by3 8 rfl (by (try dsimp only);(try simp only[putRows,List.length_append,List.length_map,List.length_cons,List.length_nil,List.length_take,List.length_drop,Int.toNat_natCast,Int.toNat_zero,Nat.zero_add,Nat.sub_zero,Nat.add_zero]);omega) ?_
  refine CapC.mk (fun room=>?_) (fun grow=>?_)
  ·((conv=>whnf);repeat' ((first|(with_reducible first|apply a_|apply b_|apply c_)|((with_reducible first|apply d_|apply e_|apply f_|apply g_);focus first|omega|(simp only[q_]<;>omega))|((with_reducible first|apply i_|apply h_);focus first|omega|(simp only[q_]<;>omega))|((with_reducible apply h_);focus first|decide|kernel_rfl)|refine s_ (by decide) ?_|refine t_ (by decide) ?_|with_reducible first|apply l_|apply m_|apply n_|apply o_|refine p_ (fun _=>?_) (fun _=>?_))<;>(conv=>whnf)))
   refine ret_fam hR [FK,FK1] [(NK,FK)] rfl (fun q hq=>?_) ⟨⟨_,rfl,?_⟩,trivial⟩ ?_
   ·have hk:=(hR.keys q hq).1
    repeat (first|exact hR.past (a:=[(FK,_),(FK1,_)]) rfl hq|refine app_fam rfl hk ?_)
   ·refine hle_rows rfl ?_ (hon_put hrw hv)
    simp only[Int.toNat_natCast,Int.toNat_zero,Nat.zero_add,Nat.sub_zero,List.drop_zero,List.take_zero]
    exact rep1 rows [a,b] (j:=i+1) (by omega) (by show _≤_+2;omega)
   ·exact⟨rfl,rfl,rfl,rfl,rfl,by first|rfl | ((try dsimp only);simp only[Int.toNat_natCast,Int.toNat_zero,Nat.zero_add,Nat.sub_zero,List.drop_zero,List.take_zero]<;>omega)⟩
  ·((conv=>whnf);repeat' ((first|(with_reducible first|apply a_|apply b_|apply c_)|((with_reducible first|apply d_|apply e_|apply f_|apply g_);focus first|omega|(simp only[q_]<;>omega))|((with_reducible first|apply i_|apply h_);focus first|omega|(simp only[q_]<;>omega))|((with_reducible apply h_);focus first|decide|kernel_rfl)|refine s_ (by decide) ?_|refine t_ (by decide) ?_|with_reducible first|apply l_|apply m_|apply n_|apply o_|refine p_ (fun _=>?_) (fun _=>?_))<;>(conv=>whnf)))
   refine ret_fam hR [FK,FK1] [(NK,34)] rfl (fun q hq=>?_) ⟨⟨_,rfl,?_⟩,trivial⟩ ?_
   ·have hk:=(hR.keys q hq).1
    repeat (first|exact hR.past (a:=[(FK,_),(FK1,_)]) rfl hq|refine app_fam rfl hk ?_)
   ·refine hle_rows rfl ?_ (hon_put hrw hv)
    simp only[Int.toNat_natCast,Int.toNat_zero,Nat.zero_add,Nat.sub_zero,List.drop_zero,List.take_zero]
    exact rep1' rows [a,b] (j:=i+1) (by omega)
   ·exact⟨rfl,rfl,rfl,rfl,rfl,by first|rfl | ((try dsimp only);simp only[Int.toNat_natCast,Int.toNat_zero,Nat.zero_add,Nat.sub_zero,List.drop_zero,List.take_zero]<;>omega)⟩
 ·refine Need.by4 8 rfl (by (try dsimp only at *);(try simp only[putRows,List.length_append,List.length_map,List.length_cons,List.length_nil,List.length_take,List.length_drop,Int.toNat_natCast,Int.toNat_zero,Nat.zero_add,Nat.sub_zero,Nat.add_zero] at *);omega) ?_
  ((conv=>whnf);repeat' ((first|(with_reducible first|apply a_|apply b_|apply c_)|((with_reducible first|apply d_|apply e_|apply f_|apply g_);focus first|omega|(simp only[q_]<;>omega))|((with_reducible first|apply i_|apply h_);focus first|omega|(simp only[q_]<;>omega))|((with_reducible apply h_);focus first|decide|kernel_rfl)|refine s_ (by decide) ?_|refine t_ (by decide) ?_|with_reducible first|apply l_|apply m_|apply n_|apply o_|refine p_ (fun _=>?_) (fun _=>?_))<;>(conv=>whnf)))
  refine CopyC.mk 2 ⟨(by (try dsimp only at *);(try simp only[putRows,List.length_append,List.length_map,List.length_cons,List.length_nil,List.length_take,List.length_drop,Int.toNat_natCast,Int.toNat_zero,Nat.zero_add,Nat.sub_zero,Nat.add_zero] at *);omega),(by (try dsimp only at *);(try simp only[putRows,List.length_append,List.length_map,List.length_cons,List.length_nil,List.length_take,List.length_drop,Int.toNat_natCast,Int.toNat_zero,Nat.zero_add,Nat.sub_zero,Nat.add_zero] at *);omega),(by first|exact .inr rfl|exact .inl rfl | (refine .inr ?_;trace_state;omega))⟩ (Need.mk ⟨(by (try dsimp only at *);(try simp only[putRows,List.length_append,List.length_map,List.length_cons,List.length_nil,List.length_take,List.length_drop,Int.toNat_natCast,Int.toNat_zero,Nat.zero_add,Nat.sub_zero,Nat.add_zero] at *);omega),(by (try dsimp only at *);(try simp only[putRows,List.length_append,List.length_map,List.length_cons,List.length_nil,List.length_take,List.length_drop,Int.toNat_natCast,Int.toNat_zero,Nat.zero_add,Nat.sub_zero,Nat.add_zero] at *);omega)⟩ ?_)
  ((conv=>whnf);repeat' ((first|(with_reducible first|apply a_|apply b_|apply c_)|((with_reducible first|apply d_|apply e_|apply f_|apply g_);focus first|omega|(simp only[q_]<;>omega))|((with_reducible first|apply i_|apply h_);focus first|omega|(simp only[q_]<;>omega))|((with_reducible apply h_);focus first|decide|kernel_rfl)|refine s_ (by decide) ?_|refine t_ (by decide) ?_|with_reducible first|apply l_|apply m_|apply n_|apply o_|refine p_ (fun _=>?_) (fun _=>?_))<;>(conv=>whnf)))
  refine CopyC.mk (rows.length - (i+1)) ⟨(by (try dsimp only);(try simp only[putRows,List.length_append,List.length_map,List.length_cons,List.length_nil,List.length_take,List.length_drop,Int.toNat_natCast,Int.toNat_zero,Nat.zero_add,Nat.sub_zero,Nat.add_zero]);omega),(by (try dsimp only);(try simp only[putRows,List.length_append,List.length_map,List.length_cons,List.length_nil,List.length_take,List.length_drop,Int.toNat_natCast,Int.toNat_zero,Nat.zero_add,Nat.sub_zero,Nat.add_zero]);omega),(by (try dsimp only);(try simp only[putRows,List.length_append,List.length_map,List.length_cons,List.length_nil,List.length_take,List.length_drop,Int.toNat_natCast,Int.toNat_zero,Nat.zero_add,Nat.sub_zero,Nat.add_zero]);omega)⟩ (Need.mk ⟨(by (try dsimp only);(try simp only[putRows,List.length_append,List.length_map,List.length_cons,List.length_nil,List.length_take,List.length_drop,Int.toNat_natCast,Int.toNat_zero,Nat.zero_add,Nat.sub_zero,Nat.add_zero]);omega),(by (try dsimp only);(try simp only[putRows,List.length_append,List.length_map,List.length_cons,List.length_nil,List.length_take,List.length_drop,Int.toNat_natCast,Int.toNat_zero,Nat.zero_add,Nat.sub_zero,Nat.add_zero]);omega)⟩ ?_)
  ((conv=>whnf);repeat' ((first|(with_reducible first|apply a_|apply b_|apply c_)|((with_reducible first|apply d_|apply e_|apply f_|apply g_);focus first|omega|(simp only[q_]<;>omega))|((with_reducible first|apply i_|apply h_);focus first|omega|(simp only[q_]<;>omega))|((with_reducible apply h_);focus first|decide|kernel_rfl)|refine s_ (by decide) ?_|refine t_ (by decide) ?_|with_reducible first|apply l_|apply m_|apply n_|apply o_|refine p_ (fun _=>?_) (fun _=>?_))<;>(conv=>whnf)))
  refine ret_fam hR [FK,FK1] [(NK,67)] rfl (fun q hq=>?_) ⟨⟨_,rfl,?_⟩,trivial⟩ ?_
  ·have hk:=(hR.keys q hq).1
   repeat (first|exact hR.past (a:=[(FK,_),(FK1,_)]) rfl hq|refine app_fam rfl hk ?_)
  ·refine hle_rows rfl ?_ (hon_put hrw hv)
   simp only[Int.toNat_natCast,Int.toNat_zero,Nat.zero_add,Nat.sub_zero,List.drop_zero,List.take_zero]
   exact rep2 rows [a,b] (j:=i+1) (by omega) (by omega)
  ·exact⟨rfl,rfl,rfl,rfl,rfl,by first|rfl | ((try dsimp only);simp only[Int.toNat_natCast,Int.toNat_zero,Nat.zero_add,Nat.sub_zero,List.drop_zero,List.take_zero]<;>omega)⟩
 ·refine CallP.ovl _ _ _ _ _ _ ov_int rfl rfl rfl rfl rfl rfl rfl rfl (by (try dsimp only at *);(try simp only[putRows,List.length_append,List.length_map,List.length_cons,List.length_nil,List.length_take,List.length_drop,Int.toNat_natCast,Int.toNat_zero,Nat.zero_add,Nat.sub_zero,Nat.add_zero] at *);omega) ?_
  ((conv=>whnf);repeat' ((first|(with_reducible first|apply a_|apply b_|apply c_)|((with_reducible first|apply d_|apply e_|apply f_|apply g_);focus first|omega|(simp only[q_]<;>omega))|((with_reducible first|apply i_|apply h_);focus first|omega|(simp only[q_]<;>omega))|((with_reducible apply h_);focus first|decide|kernel_rfl)|refine s_ (by decide) ?_|refine t_ (by decide) ?_|with_reducible first|apply l_|apply m_|apply n_|apply o_|refine p_ (fun _=>?_) (fun _=>?_))<;>(conv=>whnf)))
  refine CopyC.mk (rows.length - (i+1)) ⟨(by (try dsimp only);(try simp only[putRows,List.length_append,List.length_map,List.length_cons,List.length_nil,List.length_take,List.length_drop,Int.toNat_natCast,Int.toNat_zero,Nat.zero_add,Nat.sub_zero,Nat.add_zero]);omega),(by (try dsimp only);(try simp only[putRows,List.length_append,List.length_map,List.length_cons,List.length_nil,List.length_take,List.length_drop,Int.toNat_natCast,Int.toNat_zero,Nat.zero_add,Nat.sub_zero,Nat.add_zero]);omega),(by (try dsimp only);(try simp only[putRows,List.length_append,List.length_map,List.length_cons,List.length_nil,List.length_take,List.length_drop,Int.toNat_natCast,Int.toNat_zero,Nat.zero_add,Nat.sub_zero,Nat.add_zero]);omega)⟩ (Need.mk ⟨(by (try dsimp only);(try simp only[putRows,List.length_append,List.length_map,List.length_cons,List.length_nil,List.length_take,List.length_drop,Int.toNat_natCast,Int.toNat_zero,Nat.zero_add,Nat.sub_zero,Nat.add_zero]);omega),(by (try dsimp only);(try simp only[putRows,List.length_append,List.length_map,List.length_cons,List.length_nil,List.length_take,List.length_drop,Int.toNat_natCast,Int.toNat_zero,Nat.zero_add,Nat.sub_zero,Nat.add_zero]);omega)⟩ ?_)
  ((conv=>whnf);repeat' ((first|(with_reducible first|apply a_|apply b_|apply c_)|((with_reducible first|apply d_|apply e_|apply f_|apply g_);focus first|omega|(simp only[q_]<;>omega))|((with_reducible first|apply i_|apply h_);focus first|omega|(simp only[q_]<;>omega))|((with_reducible apply h_);focus first|decide|kernel_rfl)|refine s_ (by decide) ?_|refine t_ (by decide) ?_|with_reducible first|apply l_|apply m_|apply n_|apply o_|refine p_ (fun _=>?_) (fun _=>?_))<;>(conv=>whnf)))
  refine CopyC.mk 2 ⟨(by (try dsimp only at *);(try simp only[putRows,List.length_append,List.length_map,List.length_cons,List.length_nil,List.length_take,List.length_drop,Int.toNat_natCast,Int.toNat_zero,Nat.zero_add,Nat.sub_zero,Nat.add_zero] at *);omega),(by (try dsimp only at *);(try simp only[putRows,List.length_append,List.length_map,List.length_cons,List.length_nil,List.length_take,List.length_drop,Int.toNat_natCast,Int.toNat_zero,Nat.zero_add,Nat.sub_zero,Nat.add_zero] at *);omega),(by first|exact .inr rfl|exact .inl rfl | (refine .inr ?_;trace_state;omega))⟩ (Need.mk ⟨(by (try dsimp only at *);(try simp only[putRows,List.length_append,List.length_map,List.length_cons,List.length_nil,List.length_take,List.length_drop,Int.toNat_natCast,Int.toNat_zero,Nat.zero_add,Nat.sub_zero,Nat.add_zero] at *);omega),(by (try dsimp only at *);(try simp only[putRows,List.length_append,List.length_map,List.length_cons,List.length_nil,List.length_take,List.length_drop,Int.toNat_natCast,Int.toNat_zero,Nat.zero_add,Nat.sub_zero,Nat.add_zero] at *);omega)⟩ ?_)
  ((conv=>whnf);repeat' ((first|(with_reducible first|apply a_|apply b_|apply c_)|((with_reducible first|apply d_|apply e_|apply f_|apply g_);focus first|omega|(simp only[q_]<;>omega))|((with_reducible first|apply i_|apply h_);focus first|omega|(simp only[q_]<;>omega))|((with_reducible apply h_);focus first|decide|kernel_rfl)|refine s_ (by decide) ?_|refine t_ (by decide) ?_|with_reducible first|apply l_|apply m_|apply n_|apply o_|refine p_ (fun _=>?_) (fun _=>?_))<;>(conv=>whnf)))
  refine ret_fam hR [FK,FK1] [(NK,FK)] rfl (fun q hq=>?_) ⟨⟨_,rfl,?_⟩,trivial⟩ ?_
  ·have hk:=(hR.keys q hq).1
   repeat (first|exact hR.past (a:=[(FK,_),(FK1,_)]) rfl hq|refine app_fam rfl hk ?_)
  ·refine hle_rows rfl ?_ (hon_put hrw hv)
   simp only[Int.toNat_natCast,Int.toNat_zero,Nat.zero_add,Nat.sub_zero,List.drop_zero,List.take_zero]
   exact rep3 rows [a,b] (j:=i+1) (by show i+2≤_;omega) (by omega) (by show _≤i+2;omega)
  ·exact⟨rfl,rfl,rfl,rfl,rfl,by first|rfl | ((try dsimp only);simp only[Int.toNat_natCast,Int.toNat_zero,Nat.zero_add,Nat.sub_zero,List.drop_zero,List.take_zero]<;>omega)⟩
theorem s_rep_leaf (rows:List (List D)) (i:Nat) (hi:i<rows.length) (hm:rows.length≤1000) (hrw:hon (·∈nT) (.darr 28 1 rows)) (a b:List D) (hv:hon (·∈nT) (.darr 28 1 [a,b])) (R:Rf) (hR:Fam R) :
  CallS Try.prog 59 [.d (.arr FK 28 1 0 rows.length),pInt .i64 i,pInt .i64 ((i+1:Nat):Int),.d (.arr FK1 28 1 0 2)] R [(FK,.darr 28 1 rows),(FK1,.darr 28 1 [a,b])] (.d (.arr NK 28 1 0 (rows.length+1)))
   [(NK,.darr 28 1 (rows.take i++[a,b]++rows.drop (i+1)))]:=by
 refine CallS.full (by omega) fun c hc=>?_
 refine callS_in Try.func59 (by rfl) rfl (by kernel_rfl) (by rfl) ([FK,FK1]++nT) (fun k hk=>?_) ?_
 ·rw[List.map_append] at hk
  rcases List.mem_append.1 hk with hk | hk
  ·exact List.mem_append_right _ (hR.key k hk)
  ·exact List.mem_append_left _ hk
 rw[hR.swap rfl]
 ((conv=>whnf);repeat' ((first|(with_reducible first|apply a_|apply b_|apply c_)|((with_reducible first|apply d_|apply e_|apply f_|apply g_);focus first|omega|(simp only[q_]<;>omega))|((with_reducible first|apply i_|apply h_);focus first|omega|(simp only[q_]<;>omega))|((with_reducible apply h_);focus first|decide|kernel_rfl)|refine s_ (by decide) ?_|refine t_ (by decide) ?_|with_reducible first|apply l_|apply m_|apply n_|apply o_|refine p_ (fun _=>?_) (fun _=>?_))<;>(conv=>whnf)))
 ·refine Need.by3 24 rfl (by (try dsimp only);(try simp only[putRows,List.length_append,List.length_map,List.length_cons,List.length_nil,List.length_take,List.length_drop,Int.toNat_natCast,Int.toNat_zero,Nat.zero_add,Nat.sub_zero,Nat.add_zero]);omega) ?_
  refine CapC.mk (fun room=>?_) (fun grow=>?_)
  ·((conv=>whnf);repeat' ((first|(with_reducible first|apply a_|apply b_|apply c_)|((with_reducible first|apply d_|apply e_|apply f_|apply g_);focus first|omega|(simp only[q_]<;>omega))|((with_reducible first|apply i_|apply h_);focus first|omega|(simp only[q_]<;>omega))|((with_reducible apply h_);focus first|decide|kernel_rfl)|refine s_ (by decide) ?_|refine t_ (by decide) ?_|with_reducible first|apply l_|apply m_|apply n_|apply o_|refine p_ (fun _=>?_) (fun _=>?_))<;>(conv=>whnf)))
   refine ret_fam hR [FK,FK1] [(NK,FK)] rfl (fun q hq=>?_) ⟨⟨_,rfl,?_⟩,trivial⟩ ?_
   ·have hk:=(hR.keys q hq).1
    repeat (first|exact hR.past (a:=[(FK,_),(FK1,_)]) rfl hq|refine app_fam rfl hk ?_)
   ·refine hle_rows rfl ?_ (hon_put hrw hv)
    simp only[Int.toNat_natCast,Int.toNat_zero,Nat.zero_add,Nat.sub_zero,List.drop_zero,List.take_zero]
    exact rep1 rows [a,b] (j:=i+1) (by omega) (by show _≤_+2;omega)
   ·exact⟨rfl,rfl,rfl,rfl,rfl,by first|rfl | ((try dsimp only);simp only[Int.toNat_natCast,Int.toNat_zero,Nat.zero_add,Nat.sub_zero,List.drop_zero,List.take_zero]<;>omega)⟩
  ·((conv=>whnf);repeat' ((first|(with_reducible first|apply a_|apply b_|apply c_)|((with_reducible first|apply d_|apply e_|apply f_|apply g_);focus first|omega|(simp only[q_]<;>omega))|((with_reducible first|apply i_|apply h_);focus first|omega|(simp only[q_]<;>omega))|((with_reducible apply h_);focus first|decide|kernel_rfl)|refine s_ (by decide) ?_|refine t_ (by decide) ?_|with_reducible first|apply l_|apply m_|apply n_|apply o_|refine p_ (fun _=>?_) (fun _=>?_))<;>(conv=>whnf)))
   refine ret_fam hR [FK,FK1] [(NK,34)] rfl (fun q hq=>?_) ⟨⟨_,rfl,?_⟩,trivial⟩ ?_
   ·have hk:=(hR.keys q hq).1
    repeat (first|exact hR.past (a:=[(FK,_),(FK1,_)]) rfl hq|refine app_fam rfl hk ?_)
   ·refine hle_rows rfl ?_ (hon_put hrw hv)
    simp only[Int.toNat_natCast,Int.toNat_zero,Nat.zero_add,Nat.sub_zero,List.drop_zero,List.take_zero]
    exact rep1' rows [a,b] (j:=i+1) (by omega)
   ·exact⟨rfl,rfl,rfl,rfl,rfl,by first|rfl | ((try dsimp only);simp only[Int.toNat_natCast,Int.toNat_zero,Nat.zero_add,Nat.sub_zero,List.drop_zero,List.take_zero]<;>omega)⟩
 ·refine Need.by4 24 rfl (by (try dsimp only at *);(try simp only[putRows,List.length_append,List.length_map,List.length_cons,List.length_nil,List.length_take,List.length_drop,Int.toNat_natCast,Int.toNat_zero,Nat.zero_add,Nat.sub_zero,Nat.add_zero] at *);omega) ?_
  ((conv=>whnf);repeat' ((first|(with_reducible first|apply a_|apply b_|apply c_)|((with_reducible first|apply d_|apply e_|apply f_|apply g_);focus first|omega|(simp only[q_]<;>omega))|((with_reducible first|apply i_|apply h_);focus first|omega|(simp only[q_]<;>omega))|((with_reducible apply h_);focus first|decide|kernel_rfl)|refine s_ (by decide) ?_|refine t_ (by decide) ?_|with_reducible first|apply l_|apply m_|apply n_|apply o_|refine p_ (fun _=>?_) (fun _=>?_))<;>(conv=>whnf)))
  refine CopyC.mk 2 ⟨(by (try dsimp only at *);(try simp only[putRows,List.length_append,List.length_map,List.length_cons,List.length_nil,List.length_take,List.length_drop,Int.toNat_natCast,Int.toNat_zero,Nat.zero_add,Nat.sub_zero,Nat.add_zero] at *);omega),(by (try dsimp only at *);(try simp only[putRows,List.length_append,List.length_map,List.length_cons,List.length_nil,List.length_take,List.length_drop,Int.toNat_natCast,Int.toNat_zero,Nat.zero_add,Nat.sub_zero,Nat.add_zero] at *);omega),(by first|exact .inr rfl|exact .inl rfl | (refine .inr ?_;trace_state;omega))⟩ (Need.mk ⟨(by (try dsimp only at *);(try simp only[putRows,List.length_append,List.length_map,List.length_cons,List.length_nil,List.length_take,List.length_drop,Int.toNat_natCast,Int.toNat_zero,Nat.zero_add,Nat.sub_zero,Nat.add_zero] at *);omega),(by (try dsimp only at *);(try simp only[putRows,List.length_append,List.length_map,List.length_cons,List.length_nil,List.length_take,List.length_drop,Int.toNat_natCast,Int.toNat_zero,Nat.zero_add,Nat.sub_zero,Nat.add_zero] at *);omega)⟩ ?_)
  ((conv=>whnf);repeat' ((first|(with_reducible first|apply a_|apply b_|apply c_)|((with_reducible first|apply d_|apply e_|apply f_|apply g_);focus first|omega|(simp only[q_]<;>omega))|((with_reducible first|apply i_|apply h_);focus first|omega|(simp only[q_]<;>omega))|((with_reducible apply h_);focus first|decide|kernel_rfl)|refine s_ (by decide) ?_|refine t_ (by decide) ?_|with_reducible first|apply l_|apply m_|apply n_|apply o_|refine p_ (fun _=>?_) (fun _=>?_))<;>(conv=>whnf)))
  refine CopyC.mk (rows.length - (i+1)) ⟨(by (try dsimp only);(try simp only[putRows,List.length_append,List.length_map,List.length_cons,List.length_nil,List.length_take,List.length_drop,Int.toNat_natCast,Int.toNat_zero,Nat.zero_add,Nat.sub_zero,Nat.add_zero]);omega),(by (try dsimp only);(try simp only[putRows,List.length_append,List.length_map,List.length_cons,List.length_nil,List.length_take,List.length_drop,Int.toNat_natCast,Int.toNat_zero,Nat.zero_add,Nat.sub_zero,Nat.add_zero]);omega),(by (try dsimp only);(try simp only[putRows,List.length_append,List.length_map,List.length_cons,List.length_nil,List.length_take,List.length_drop,Int.toNat_natCast,Int.toNat_zero,Nat.zero_add,Nat.sub_zero,Nat.add_zero]);omega)⟩ (Need.mk ⟨(by (try dsimp only);(try simp only[putRows,List.length_append,List.length_map,List.length_cons,List.length_nil,List.length_take,List.length_drop,Int.toNat_natCast,Int.toNat_zero,Nat.zero_add,Nat.sub_zero,Nat.add_zero]);omega),(by (try dsimp only);(try simp only[putRows,List.length_append,List.length_map,List.length_cons,List.length_nil,List.length_take,List.length_drop,Int.toNat_natCast,Int.toNat_zero,Nat.zero_add,Nat.sub_zero,Nat.add_zero]);omega)⟩ ?_)
  ((conv=>whnf);repeat' ((first|(with_reducible first|apply a_|apply b_|apply c_)|((with_reducible first|apply d_|apply e_|apply f_|apply g_);focus first|omega|(simp only[q_]<;>omega))|((with_reducible first|apply i_|apply h_);focus first|omega|(simp only[q_]<;>omega))|((with_reducible apply h_);focus first|decide|kernel_rfl)|refine s_ (by decide) ?_|refine t_ (by decide) ?_|with_reducible first|apply l_|apply m_|apply n_|apply o_|refine p_ (fun _=>?_) (fun _=>?_))<;>(conv=>whnf)))
  refine ret_fam hR [FK,FK1] [(NK,67)] rfl (fun q hq=>?_) ⟨⟨_,rfl,?_⟩,trivial⟩ ?_
  ·have hk:=(hR.keys q hq).1
   repeat (first|exact hR.past (a:=[(FK,_),(FK1,_)]) rfl hq|refine app_fam rfl hk ?_)
  ·refine hle_rows rfl ?_ (hon_put hrw hv)
   simp only[Int.toNat_natCast,Int.toNat_zero,Nat.zero_add,Nat.sub_zero,List.drop_zero,List.take_zero]
   exact rep2 rows [a,b] (j:=i+1) (by omega) (by omega)
  ·exact⟨rfl,rfl,rfl,rfl,rfl,by first|rfl | ((try dsimp only);simp only[Int.toNat_natCast,Int.toNat_zero,Nat.zero_add,Nat.sub_zero,List.drop_zero,List.take_zero]<;>omega)⟩
 ·refine CallP.ovl _ _ _ _ _ _ ov_leaf rfl rfl rfl rfl rfl rfl rfl rfl (by (try dsimp only at *);(try simp only[putRows,List.length_append,List.length_map,List.length_cons,List.length_nil,List.length_take,List.length_drop,Int.toNat_natCast,Int.toNat_zero,Nat.zero_add,Nat.sub_zero,Nat.add_zero] at *);omega) ?_
  ((conv=>whnf);repeat' ((first|(with_reducible first|apply a_|apply b_|apply c_)|((with_reducible first|apply d_|apply e_|apply f_|apply g_);focus first|omega|(simp only[q_]<;>omega))|((with_reducible first|apply i_|apply h_);focus first|omega|(simp only[q_]<;>omega))|((with_reducible apply h_);focus first|decide|kernel_rfl)|refine s_ (by decide) ?_|refine t_ (by decide) ?_|with_reducible first|apply l_|apply m_|apply n_|apply o_|refine p_ (fun _=>?_) (fun _=>?_))<;>(conv=>whnf)))
  refine CopyC.mk (rows.length - (i+1)) ⟨(by (try dsimp only);(try simp only[putRows,List.length_append,List.length_map,List.length_cons,List.length_nil,List.length_take,List.length_drop,Int.toNat_natCast,Int.toNat_zero,Nat.zero_add,Nat.sub_zero,Nat.add_zero]);omega),(by (try dsimp only);(try simp only[putRows,List.length_append,List.length_map,List.length_cons,List.length_nil,List.length_take,List.length_drop,Int.toNat_natCast,Int.toNat_zero,Nat.zero_add,Nat.sub_zero,Nat.add_zero]);omega),(by (try dsimp only);(try simp only[putRows,List.length_append,List.length_map,List.length_cons,List.length_nil,List.length_take,List.length_drop,Int.toNat_natCast,Int.toNat_zero,Nat.zero_add,Nat.sub_zero,Nat.add_zero]);omega)⟩ (Need.mk ⟨(by (try dsimp only);(try simp only[putRows,List.length_append,List.length_map,List.length_cons,List.length_nil,List.length_take,List.length_drop,Int.toNat_natCast,Int.toNat_zero,Nat.zero_add,Nat.sub_zero,Nat.add_zero]);omega),(by (try dsimp only);(try simp only[putRows,List.length_append,List.length_map,List.length_cons,List.length_nil,List.length_take,List.length_drop,Int.toNat_natCast,Int.toNat_zero,Nat.zero_add,Nat.sub_zero,Nat.add_zero]);omega)⟩ ?_)
  ((conv=>whnf);repeat' ((first|(with_reducible first|apply a_|apply b_|apply c_)|((with_reducible first|apply d_|apply e_|apply f_|apply g_);focus first|omega|(simp only[q_]<;>omega))|((with_reducible first|apply i_|apply h_);focus first|omega|(simp only[q_]<;>omega))|((with_reducible apply h_);focus first|decide|kernel_rfl)|refine s_ (by decide) ?_|refine t_ (by decide) ?_|with_reducible first|apply l_|apply m_|apply n_|apply o_|refine p_ (fun _=>?_) (fun _=>?_))<;>(conv=>whnf)))
  refine CopyC.mk 2 ⟨(by (try dsimp only at *);(try simp only[putRows,List.length_append,List.length_map,List.length_cons,List.length_nil,List.length_take,List.length_drop,Int.toNat_natCast,Int.toNat_zero,Nat.zero_add,Nat.sub_zero,Nat.add_zero] at *);omega),(by (try dsimp only at *);(try simp only[putRows,List.length_append,List.length_map,List.length_cons,List.length_nil,List.length_take,List.length_drop,Int.toNat_natCast,Int.toNat_zero,Nat.zero_add,Nat.sub_zero,Nat.add_zero] at *);omega),(by first|exact .inr rfl|exact .inl rfl | (refine .inr ?_;trace_state;omega))⟩ (Need.mk ⟨(by (try dsimp only at *);(try simp only[putRows,List.length_append,List.length_map,List.length_cons,List.length_nil,List.length_take,List.length_drop,Int.toNat_natCast,Int.toNat_zero,Nat.zero_add,Nat.sub_zero,Nat.add_zero] at *);omega),(by (try dsimp only at *);(try simp only[putRows,List.length_append,List.length_map,List.length_cons,List.length_nil,List.length_take,List.length_drop,Int.toNat_natCast,Int.toNat_zero,Nat.zero_add,Nat.sub_zero,Nat.add_zero] at *);omega)⟩ ?_)
  ((conv=>whnf);repeat' ((first|(with_reducible first|apply a_|apply b_|apply c_)|((with_reducible first|apply d_|apply e_|apply f_|apply g_);focus first|omega|(simp only[q_]<;>omega))|((with_reducible first|apply i_|apply h_);focus first|omega|(simp only[q_]<;>omega))|((with_reducible apply h_);focus first|decide|kernel_rfl)|refine s_ (by decide) ?_|refine t_ (by decide) ?_|with_reducible first|apply l_|apply m_|apply n_|apply o_|refine p_ (fun _=>?_) (fun _=>?_))<;>(conv=>whnf)))
  refine ret_fam hR [FK,FK1] [(NK,FK)] rfl (fun q hq=>?_) ⟨⟨_,rfl,?_⟩,trivial⟩ ?_
  ·have hk:=(hR.keys q hq).1
   repeat (first|exact hR.past (a:=[(FK,_),(FK1,_)]) rfl hq|refine app_fam rfl hk ?_)
  ·refine hle_rows rfl ?_ (hon_put hrw hv)
   simp only[Int.toNat_natCast,Int.toNat_zero,Nat.zero_add,Nat.sub_zero,List.drop_zero,List.take_zero]
   exact rep3 rows [a,b] (j:=i+1) (by show i+2≤_;omega) (by omega) (by show _≤i+2;omega)
  ·exact⟨rfl,rfl,rfl,rfl,rfl,by first|rfl | ((try dsimp only);simp only[Int.toNat_natCast,Int.toNat_zero,Nat.zero_add,Nat.sub_zero,List.drop_zero,List.take_zero]<;>omega)⟩
theorem s_ins_pair (rows:List (List D)) (i:Nat) (hi:i≤rows.length) (hm:rows.length≤1000) (h0:0<rows.length) (hrw:hon (·∈nT) (.darr 38 2 rows)) (a:List D) (hv:hon (·∈nT) (.darr 38 2 [a])) (R:Rf) (hR:Fam R) :
  CallS Try.prog 37 [.d (.arr FK 38 2 0 rows.length),pInt .i64 i,.d (.arr FK1 38 2 0 1)] R [(FK,.darr 38 2 rows),(FK1,.darr 38 2 [a])] (.d (.arr NK 38 2 0 (rows.length+1)))
   [(NK,.darr 38 2 (rows.take i++[a]++rows.drop (i)))]:=by
 refine CallS.full (by omega) fun c hc=>?_
 refine callS_in Try.func37 (by rfl) rfl (by kernel_rfl) (by rfl) ([FK,FK1]++nT) (fun k hk=>?_) ?_
 ·rw[List.map_append] at hk
  rcases List.mem_append.1 hk with hk | hk
  ·exact List.mem_append_right _ (hR.key k hk)
  ·exact List.mem_append_left _ hk
 rw[hR.swap rfl]
 ((conv=>whnf);repeat' ((first|(with_reducible first|apply a_|apply b_|apply c_)|((with_reducible first|apply d_|apply e_|apply f_|apply g_);focus first|omega|(simp only[q_]<;>omega))|((with_reducible first|apply i_|apply h_);focus first|omega|(simp only[q_]<;>omega))|((with_reducible apply h_);focus first|decide|kernel_rfl)|refine s_ (by decide) ?_|refine t_ (by decide) ?_|with_reducible first|apply l_|apply m_|apply n_|apply o_|refine p_ (fun _=>?_) (fun _=>?_))<;>(conv=>whnf)))
 ·obtain rfl:i=rows.length:=by omega
  refine Need.by3 24 rfl (by (try dsimp only);(try simp only[putRows,List.length_append,List.length_map,List.length_cons,List.length_nil,List.length_take,List.length_drop,Int.toNat_natCast,Int.toNat_zero,Nat.zero_add,Nat.sub_zero,Nat.add_zero]);omega) ?_
  refine CapC.mk (fun room=>?_) (fun grow=>?_)
  ·((conv=>whnf);repeat' ((first|(with_reducible first|apply a_|apply b_|apply c_)|((with_reducible first|apply d_|apply e_|apply f_|apply g_);focus first|omega|(simp only[q_]<;>omega))|((with_reducible first|apply i_|apply h_);focus first|omega|(simp only[q_]<;>omega))|((with_reducible apply h_);focus first|decide|kernel_rfl)|refine s_ (by decide) ?_|refine t_ (by decide) ?_|with_reducible first|apply l_|apply m_|apply n_|apply o_|refine p_ (fun _=>?_) (fun _=>?_))<;>(conv=>whnf)))
   refine ret_fam hR [FK,FK1] [(NK,FK)] rfl (fun q hq=>?_) ⟨⟨_,rfl,?_⟩,trivial⟩ ?_
   ·have hk:=(hR.keys q hq).1
    repeat (first|exact hR.past (a:=[(FK,_),(FK1,_)]) rfl hq|refine app_fam rfl hk ?_)
   ·refine hle_rows rfl ?_ (hon_put hrw hv)
    simp only[Int.toNat_natCast,Int.toNat_zero,Nat.zero_add,Nat.sub_zero,List.drop_zero,List.take_zero]
    exact rep1 rows [a] (j:=rows.length) (by omega) (by show _≤_+1;omega)
   ·exact⟨rfl,rfl,rfl,rfl,rfl,by first|rfl | ((try dsimp only);simp only[Int.toNat_natCast,Int.toNat_zero,Nat.zero_add,Nat.sub_zero,List.drop_zero,List.take_zero]<;>omega)⟩
  ·((conv=>whnf);repeat' ((first|(with_reducible first|apply a_|apply b_|apply c_)|((with_reducible first|apply d_|apply e_|apply f_|apply g_);focus first|omega|(simp only[q_]<;>omega))|((with_reducible first|apply i_|apply h_);focus first|omega|(simp only[q_]<;>omega))|((with_reducible apply h_);focus first|decide|kernel_rfl)|refine s_ (by decide) ?_|refine t_ (by decide) ?_|with_reducible first|apply l_|apply m_|apply n_|apply o_|refine p_ (fun _=>?_) (fun _=>?_))<;>(conv=>whnf)))
   refine ret_fam hR [FK,FK1] [(NK,25)] rfl (fun q hq=>?_) ⟨⟨_,rfl,?_⟩,trivial⟩ ?_
   ·have hk:=(hR.keys q hq).1
    repeat (first|exact hR.past (a:=[(FK,_),(FK1,_)]) rfl hq|refine app_fam rfl hk ?_)
   ·refine hle_rows rfl ?_ (hon_put hrw hv)
    simp only[Int.toNat_natCast,Int.toNat_zero,Nat.zero_add,Nat.sub_zero,List.drop_zero,List.take_zero]
    exact rep1' rows [a] (j:=rows.length) (by omega)
   ·exact⟨rfl,rfl,rfl,rfl,rfl,by first|rfl | ((try dsimp only);simp only[Int.toNat_natCast,Int.toNat_zero,Nat.zero_add,Nat.sub_zero,List.drop_zero,List.take_zero]<;>omega)⟩
 ·refine Need.by4 24 rfl (by (try dsimp only at *);(try simp only[putRows,List.length_append,List.length_map,List.length_cons,List.length_nil,List.length_take,List.length_drop,Int.toNat_natCast,Int.toNat_zero,Nat.zero_add,Nat.sub_zero,Nat.add_zero] at *);omega) ?_
  ((conv=>whnf);repeat' ((first|(with_reducible first|apply a_|apply b_|apply c_)|((with_reducible first|apply d_|apply e_|apply f_|apply g_);focus first|omega|(simp only[q_]<;>omega))|((with_reducible first|apply i_|apply h_);focus first|omega|(simp only[q_]<;>omega))|((with_reducible apply h_);focus first|decide|kernel_rfl)|refine s_ (by decide) ?_|refine t_ (by decide) ?_|with_reducible first|apply l_|apply m_|apply n_|apply o_|refine p_ (fun _=>?_) (fun _=>?_))<;>(conv=>whnf)))
  refine CopyC.mk 1 ⟨(by (try dsimp only at *);(try simp only[putRows,List.length_append,List.length_map,List.length_cons,List.length_nil,List.length_take,List.length_drop,Int.toNat_natCast,Int.toNat_zero,Nat.zero_add,Nat.sub_zero,Nat.add_zero] at *);omega),(by (try dsimp only at *);(try simp only[putRows,List.length_append,List.length_map,List.length_cons,List.length_nil,List.length_take,List.length_drop,Int.toNat_natCast,Int.toNat_zero,Nat.zero_add,Nat.sub_zero,Nat.add_zero] at *);omega),(by first|exact .inr rfl|exact .inl rfl | (refine .inr ?_;trace_state;omega))⟩ (Need.mk ⟨(by (try dsimp only at *);(try simp only[putRows,List.length_append,List.length_map,List.length_cons,List.length_nil,List.length_take,List.length_drop,Int.toNat_natCast,Int.toNat_zero,Nat.zero_add,Nat.sub_zero,Nat.add_zero] at *);omega),(by (try dsimp only at *);(try simp only[putRows,List.length_append,List.length_map,List.length_cons,List.length_nil,List.length_take,List.length_drop,Int.toNat_natCast,Int.toNat_zero,Nat.zero_add,Nat.sub_zero,Nat.add_zero] at *);omega)⟩ ?_)
  ((conv=>whnf);repeat' ((first|(with_reducible first|apply a_|apply b_|apply c_)|((with_reducible first|apply d_|apply e_|apply f_|apply g_);focus first|omega|(simp only[q_]<;>omega))|((with_reducible first|apply i_|apply h_);focus first|omega|(simp only[q_]<;>omega))|((with_reducible apply h_);focus first|decide|kernel_rfl)|refine s_ (by decide) ?_|refine t_ (by decide) ?_|with_reducible first|apply l_|apply m_|apply n_|apply o_|refine p_ (fun _=>?_) (fun _=>?_))<;>(conv=>whnf)))
  refine CopyC.mk (rows.length - (i)) ⟨(by (try dsimp only);(try simp only[putRows,List.length_append,List.length_map,List.length_cons,List.length_nil,List.length_take,List.length_drop,Int.toNat_natCast,Int.toNat_zero,Nat.zero_add,Nat.sub_zero,Nat.add_zero]);omega),(by (try dsimp only);(try simp only[putRows,List.length_append,List.length_map,List.length_cons,List.length_nil,List.length_take,List.length_drop,Int.toNat_natCast,Int.toNat_zero,Nat.zero_add,Nat.sub_zero,Nat.add_zero]);omega),(by (try dsimp only);(try simp only[putRows,List.length_append,List.length_map,List.length_cons,List.length_nil,List.length_take,List.length_drop,Int.toNat_natCast,Int.toNat_zero,Nat.zero_add,Nat.sub_zero,Nat.add_zero]);omega)⟩ (Need.mk ⟨(by (try dsimp only);(try simp only[putRows,List.length_append,List.length_map,List.length_cons,List.length_nil,List.length_take,List.length_drop,Int.toNat_natCast,Int.toNat_zero,Nat.zero_add,Nat.sub_zero,Nat.add_zero]);omega),(by (try dsimp only);(try simp only[putRows,List.length_append,List.length_map,List.length_cons,List.length_nil,List.length_take,List.length_drop,Int.toNat_natCast,Int.toNat_zero,Nat.zero_add,Nat.sub_zero,Nat.add_zero]);omega)⟩ ?_)
  ((conv=>whnf);repeat' ((first|(with_reducible first|apply a_|apply b_|apply c_)|((with_reducible first|apply d_|apply e_|apply f_|apply g_);focus first|omega|(simp only[q_]<;>omega))|((with_reducible first|apply i_|apply h_);focus first|omega|(simp only[q_]<;>omega))|((with_reducible apply h_);focus first|decide|kernel_rfl)|refine s_ (by decide) ?_|refine t_ (by decide) ?_|with_reducible first|apply l_|apply m_|apply n_|apply o_|refine p_ (fun _=>?_) (fun _=>?_))<;>(conv=>whnf)))
  refine ret_fam hR [FK,FK1] [(NK,40)] rfl (fun q hq=>?_) ⟨⟨_,rfl,?_⟩,trivial⟩ ?_
  ·have hk:=(hR.keys q hq).1
   repeat (first|exact hR.past (a:=[(FK,_),(FK1,_)]) rfl hq|refine app_fam rfl hk ?_)
  ·refine hle_rows rfl ?_ (hon_put hrw hv)
   simp only[Int.toNat_natCast,Int.toNat_zero,Nat.zero_add,Nat.sub_zero,List.drop_zero,List.take_zero]
   exact rep2 rows [a] (j:=i) (by omega) (by omega)
  ·exact⟨rfl,rfl,rfl,rfl,rfl,by first|rfl | ((try dsimp only);simp only[Int.toNat_natCast,Int.toNat_zero,Nat.zero_add,Nat.sub_zero,List.drop_zero,List.take_zero]<;>omega)⟩
 ·refine CallP.ovl _ _ _ _ _ _ ov_pair rfl rfl rfl rfl rfl rfl rfl rfl (by (try dsimp only at *);(try simp only[putRows,List.length_append,List.length_map,List.length_cons,List.length_nil,List.length_take,List.length_drop,Int.toNat_natCast,Int.toNat_zero,Nat.zero_add,Nat.sub_zero,Nat.add_zero] at *);omega) ?_
  ((conv=>whnf);repeat' ((first|(with_reducible first|apply a_|apply b_|apply c_)|((with_reducible first|apply d_|apply e_|apply f_|apply g_);focus first|omega|(simp only[q_]<;>omega))|((with_reducible first|apply i_|apply h_);focus first|omega|(simp only[q_]<;>omega))|((with_reducible apply h_);focus first|decide|kernel_rfl)|refine s_ (by decide) ?_|refine t_ (by decide) ?_|with_reducible first|apply l_|apply m_|apply n_|apply o_|refine p_ (fun _=>?_) (fun _=>?_))<;>(conv=>whnf)))
  refine CopyC.mk (rows.length - (i)) ⟨(by (try dsimp only);(try simp only[putRows,List.length_append,List.length_map,List.length_cons,List.length_nil,List.length_take,List.length_drop,Int.toNat_natCast,Int.toNat_zero,Nat.zero_add,Nat.sub_zero,Nat.add_zero]);omega),(by (try dsimp only);(try simp only[putRows,List.length_append,List.length_map,List.length_cons,List.length_nil,List.length_take,List.length_drop,Int.toNat_natCast,Int.toNat_zero,Nat.zero_add,Nat.sub_zero,Nat.add_zero]);omega),(by (try dsimp only);(try simp only[putRows,List.length_append,List.length_map,List.length_cons,List.length_nil,List.length_take,List.length_drop,Int.toNat_natCast,Int.toNat_zero,Nat.zero_add,Nat.sub_zero,Nat.add_zero]);omega)⟩ (Need.mk ⟨(by (try dsimp only);(try simp only[putRows,List.length_append,List.length_map,List.length_cons,List.length_nil,List.length_take,List.length_drop,Int.toNat_natCast,Int.toNat_zero,Nat.zero_add,Nat.sub_zero,Nat.add_zero]);omega),(by (try dsimp only);(try simp only[putRows,List.length_append,List.length_map,List.length_cons,List.length_nil,List.length_take,List.length_drop,Int.toNat_natCast,Int.toNat_zero,Nat.zero_add,Nat.sub_zero,Nat.add_zero]);omega)⟩ ?_)
  ((conv=>whnf);repeat' ((first|(with_reducible first|apply a_|apply b_|apply c_)|((with_reducible first|apply d_|apply e_|apply f_|apply g_);focus first|omega|(simp only[q_]<;>omega))|((with_reducible first|apply i_|apply h_);focus first|omega|(simp only[q_]<;>omega))|((with_reducible apply h_);focus first|decide|kernel_rfl)|refine s_ (by decide) ?_|refine t_ (by decide) ?_|with_reducible first|apply l_|apply m_|apply n_|apply o_|refine p_ (fun _=>?_) (fun _=>?_))<;>(conv=>whnf)))
  refine CopyC.mk 1 ⟨(by (try dsimp only at *);(try simp only[putRows,List.length_append,List.length_map,List.length_cons,List.length_nil,List.length_take,List.length_drop,Int.toNat_natCast,Int.toNat_zero,Nat.zero_add,Nat.sub_zero,Nat.add_zero] at *);omega),(by (try dsimp only at *);(try simp only[putRows,List.length_append,List.length_map,List.length_cons,List.length_nil,List.length_take,List.length_drop,Int.toNat_natCast,Int.toNat_zero,Nat.zero_add,Nat.sub_zero,Nat.add_zero] at *);omega),(by first|exact .inr rfl|exact .inl rfl | (refine .inr ?_;trace_state;omega))⟩ (Need.mk ⟨(by (try dsimp only at *);(try simp only[putRows,List.length_append,List.length_map,List.length_cons,List.length_nil,List.length_take,List.length_drop,Int.toNat_natCast,Int.toNat_zero,Nat.zero_add,Nat.sub_zero,Nat.add_zero] at *);omega),(by (try dsimp only at *);(try simp only[putRows,List.length_append,List.length_map,List.length_cons,List.length_nil,List.length_take,List.length_drop,Int.toNat_natCast,Int.toNat_zero,Nat.zero_add,Nat.sub_zero,Nat.add_zero] at *);omega)⟩ ?_)
  ((conv=>whnf);repeat' ((first|(with_reducible first|apply a_|apply b_|apply c_)|((with_reducible first|apply d_|apply e_|apply f_|apply g_);focus first|omega|(simp only[q_]<;>omega))|((with_reducible first|apply i_|apply h_);focus first|omega|(simp only[q_]<;>omega))|((with_reducible apply h_);focus first|decide|kernel_rfl)|refine s_ (by decide) ?_|refine t_ (by decide) ?_|with_reducible first|apply l_|apply m_|apply n_|apply o_|refine p_ (fun _=>?_) (fun _=>?_))<;>(conv=>whnf)))
  refine ret_fam hR [FK,FK1] [(NK,FK)] rfl (fun q hq=>?_) ⟨⟨_,rfl,?_⟩,trivial⟩ ?_
  ·have hk:=(hR.keys q hq).1
   repeat (first|exact hR.past (a:=[(FK,_),(FK1,_)]) rfl hq|refine app_fam rfl hk ?_)
  ·refine hle_rows rfl ?_ (hon_put hrw hv)
   simp only[Int.toNat_natCast,Int.toNat_zero,Nat.zero_add,Nat.sub_zero,List.drop_zero,List.take_zero]
   exact rep3 rows [a] (j:=i) (by show i+1≤_;omega) (by omega) (by show _≤i+1;omega)
  ·exact⟨rfl,rfl,rfl,rfl,rfl,by first|rfl | ((try dsimp only);simp only[Int.toNat_natCast,Int.toNat_zero,Nat.zero_add,Nat.sub_zero,List.drop_zero,List.take_zero]<;>omega)⟩
end
section
open Go.RowKit
end
section
open Go.RowKit K
set_option maxRecDepth 100000
set_option maxRecDepth 100000
open Tr
theorem Tr.Need.by1 {n x lim:Nat} {K:Prop} (B:Nat) (hb:x=B) (h:n*B≤lim) (k:K):Need (n*x≤lim) K:=by subst hb;exact⟨h,k⟩
theorem s_clone_pair (l:List (List C)) (h0:l≠[]) (h:l.length≤1000):CallS Try.prog 55 [.d (.c (.sl 2 l))] [] [] (.d (.arr NK 38 2 0 l.length)) [(NK,.arr 38 2 l)]:=by
 cases l with
 | nil=>exact absurd rfl h0
 | cons x l=>
  refine callS_of Try.func55 (by rfl) rfl (by kernel_rfl) (by rfl) [] rfl ?_
  ((conv=>whnf);repeat' ((first|(with_reducible first|apply a_|apply b_|apply c_)|((with_reducible first|apply d_|apply e_|apply f_|apply g_);focus first|omega|(simp only[q_]<;>omega))|((with_reducible first|apply i_|apply h_);focus first|omega|(simp only[q_]<;>omega))|((with_reducible apply h_);focus first|decide|kernel_rfl)|refine s_ (by decide) ?_|refine t_ (by decide) ?_|(refine EmpOr.emp ?_)|(refine Need.mk (List.cons_ne_nil _ _) ?_)|with_reducible first|apply l_|apply m_|apply n_|apply o_|refine p_ (fun _=>?_) (fun _=>?_))<;>(conv=>whnf)))
  refine Need.by1 24 rfl (by omega) ?_
  ((conv=>whnf);repeat' ((first|(with_reducible first|apply a_|apply b_|apply c_)|((with_reducible first|apply d_|apply e_|apply f_|apply g_);focus first|omega|(simp only[q_]<;>omega))|((with_reducible first|apply i_|apply h_);focus first|omega|(simp only[q_]<;>omega))|((with_reducible apply h_);focus first|decide|kernel_rfl)|refine s_ (by decide) ?_|refine t_ (by decide) ?_|with_reducible first|apply l_|apply m_|apply n_|apply o_|refine p_ (fun _=>?_) (fun _=>?_))<;>(conv=>whnf)))
  refine RetS.mk [(NK,7)] [NK] rfl rfl ⟨rfl,rfl,rfl,rfl,rfl,rfl⟩ ⟨⟨rfl,rfl,rfl,rfl⟩,trivial⟩
theorem s_clone_int (l:List (List C)) (h0:l≠[]) (h:l.length≤1000):CallS Try.prog 56 [.d (.c (.sl 1 l))] [] [] (.d (.arr NK 3 1 0 l.length)) [(NK,.arr 3 1 l)]:=by
 cases l with
 | nil=>exact absurd rfl h0
 | cons x l=>
  refine callS_of Try.func56 (by rfl) rfl (by kernel_rfl) (by rfl) [] rfl ?_
  ((conv=>whnf);repeat' ((first|(with_reducible first|apply a_|apply b_|apply c_)|((with_reducible first|apply d_|apply e_|apply f_|apply g_);focus first|omega|(simp only[q_]<;>omega))|((with_reducible first|apply i_|apply h_);focus first|omega|(simp only[q_]<;>omega))|((with_reducible apply h_);focus first|decide|kernel_rfl)|refine s_ (by decide) ?_|refine t_ (by decide) ?_|(refine EmpOr.emp ?_)|(refine Need.mk (List.cons_ne_nil _ _) ?_)|with_reducible first|apply l_|apply m_|apply n_|apply o_|refine p_ (fun _=>?_) (fun _=>?_))<;>(conv=>whnf)))
  refine Need.by1 8 rfl (by omega) ?_
  ((conv=>whnf);repeat' ((first|(with_reducible first|apply a_|apply b_|apply c_)|((with_reducible first|apply d_|apply e_|apply f_|apply g_);focus first|omega|(simp only[q_]<;>omega))|((with_reducible first|apply i_|apply h_);focus first|omega|(simp only[q_]<;>omega))|((with_reducible apply h_);focus first|decide|kernel_rfl)|refine s_ (by decide) ?_|refine t_ (by decide) ?_|with_reducible first|apply l_|apply m_|apply n_|apply o_|refine p_ (fun _=>?_) (fun _=>?_))<;>(conv=>whnf)))
  refine RetS.mk [(NK,7)] [NK] rfl rfl ⟨rfl,rfl,rfl,rfl,rfl,rfl⟩ ⟨⟨rfl,rfl,rfl,rfl⟩,trivial⟩
theorem s_clone_own (rows:List (List C)) (lo n:Nat) (hn:0<n) (hl:lo+n≤rows.length) (h:rows.length≤1000):CallS Try.prog 55 [.d (.arr FK 38 2 lo n)] [(FK,.darr 38 2 (rows.map (List.map D.c)))] [] (.d (.arr NK 38 2 0 n)) [(NK,.darr 38 2 (((rows.drop lo).take n).map (List.map D.c)))]:=by
 have hlm:(rows.map (List.map D.c)).length=rows.length:=List.length_map _
 refine callS_of Try.func55 (by rfl) rfl (by kernel_rfl) (by rfl) [FK] rfl ?_
 ((conv=>whnf);repeat' ((first|(with_reducible first|apply a_|apply b_|apply c_)|((with_reducible first|apply d_|apply e_|apply f_|apply g_);focus first|omega|(simp only[q_]<;>omega))|((with_reducible first|apply i_|apply h_);focus first|omega|(simp only[q_]<;>omega))|((with_reducible apply h_);focus first|decide|kernel_rfl)|refine s_ (by decide) ?_|refine t_ (by decide) ?_|(refine EmpOr.emp ?_)|with_reducible first|apply l_|apply m_|apply n_|apply o_|refine p_ (fun _=>?_) (fun _=>?_))<;>(conv=>whnf)))
 refine Need.by3 24 rfl (by dsimp only;omega) ?_
 ((conv=>whnf);repeat' ((first|(with_reducible first|apply a_|apply b_|apply c_)|((with_reducible first|apply d_|apply e_|apply f_|apply g_);focus first|omega|(simp only[q_]<;>omega))|((with_reducible first|apply i_|apply h_);focus first|omega|(simp only[q_]<;>omega))|((with_reducible apply h_);focus first|decide|kernel_rfl)|refine s_ (by decide) ?_|refine t_ (by decide) ?_|with_reducible first|apply l_|apply m_|apply n_|apply o_|refine p_ (fun _=>?_) (fun _=>?_))<;>(conv=>whnf)))
 refine RetS.mk [(FK,FK),(NK,7)] [FK,NK] rfl rfl ⟨rfl,rfl,rfl,rfl,rfl,rfl⟩ ⟨⟨rfl,⟨rfl,rfl,dless_cs _⟩⟩,⟨rfl,⟨rfl,rfl,?_⟩⟩,trivial⟩
 dsimp only
 rw[← List.map_drop,← List.map_take]
 exact dless_cs _
end
end Go.Proofs.Ythejollbijglcaa.Pm
section
namespace Go.Proofs.Ythejollbijglcaa.Pm
open Go.RowKit K
set_option maxRecDepth 100000
set_option maxRecDepth 100000
open Tr
def leafH (a:List PairD):HB:=.darr 38 2 ((a.map PairD.c).map (List.map D.c))
def lvlH (u:List Nat):HB:=.darr 3 1 ((u.map natC).map (List.map D.c))
structure LE where
 k:Nat
 lo:Nat
 n:Nat
 a:List PairD
def LE.row (e:LE):List D:=[.arr e.k 38 2 e.lo e.n]
def LE.val (e:LE):List PairD:=(e.a.drop e.lo).take e.n
def LE.fam (e:LE):Nat×HB:=(e.k,leafH e.a)
def mkL (k:Nat) (l:List PairD):LE:=⟨k,0,l.length,l⟩
theorem mkL_val (k:Nat) (l:List PairD):(mkL k l).val=l:=by unfold mkL LE.val;rw[List.drop_zero,List.take_length]
abbrev UE:=Nat×List Nat
def urow (p:UE):List D:=[.arr p.1 3 1 0 p.2.length]
def ufam (p:UE):Nat×HB:=(p.1,lvlH p.2)
abbrev famT (es:List LE) (us:List UE):Rf:=es.map LE.fam++us.map ufam
abbrev nearT (b l u:Nat) (es:List LE) (us:List UE):Rf:=
 [(b,.box 61 [.arr l 28 1 0 es.length,.arr u 54 1 0 us.length]),(l,.darr 28 1 (es.map LE.row)),(u,.darr 54 1 (us.map urow))]
structure NmT (es:List LE) (us:List UE):Prop where
 nd:(es.map LE.k++us.map Prod.fst).Nodup
 inn:∀k∈es.map LE.k++us.map Prod.fst,k∈nT
namespace Tr
theorem hon_leaf (p:Nat→Prop) (a:List PairD):hon p (leafH a):=hon_cs p _ _ _
theorem hon_lvl (p:Nat→Prop) (u:List Nat):hon p (lvlH u):=hon_cs p _ _ _
theorem hmp_cs (F:Nat→Nat) (e sz:Nat) (l:List (List C)):hmp F (.darr e sz (l.map (List.map D.c)))=.darr e sz (l.map (List.map D.c)):=hmp_same (p:=fun _=>False) (fun _ h=>h.elim) (hon_cs _ _ _ _)
theorem hmp_leaf (F:Nat→Nat) (a:List PairD):hmp F (leafH a)=leafH a:=hmp_cs F _ _ _
theorem hmp_lvl (F:Nat→Nat) (u:List Nat):hmp F (lvlH u)=lvlH u:=hmp_cs F _ _ _
theorem famT_keys (es:List LE) (us:List UE):(famT es us).map Prod.fst=es.map LE.k++us.map Prod.fst:=by
 rw[List.map_append,List.map_map,List.map_map];rfl
theorem nodup_look:∀{R:Rf},(R.map Prod.fst).Nodup→∀q∈R,hpL R q.1=some q.2
 | p::R,h,q,hq=>by
  rw[List.map_cons] at h
  obtain⟨h1,h2⟩:=List.nodup_cons.1 h
  rcases List.mem_cons.1 hq with rfl | hq
  ·show (bif Nat.beq q.1 q.1 then some q.2 else _)=_
   rw[Nat.beq_refl];rfl
  ·show (bif Nat.beq q.1 p.1 then some p.2 else _)=_
   rw[nbeq fun e=>h1 (by rw[← e];exact List.mem_map.2 ⟨q,hq,rfl⟩)]
   exact nodup_look h2 q hq
theorem nm_fam {es:List LE} {us:List UE} (h:NmT es us):Fam (famT es us):=⟨fun q hq=>by
 refine⟨h.inn _ (by rw[← famT_keys];exact List.mem_map.2 ⟨q,hq,rfl⟩),?_⟩
 rcases List.mem_append.1 hq with hq | hq
 ·obtain⟨e,_,rfl⟩:=List.mem_map.1 hq
  exact hon_leaf _ _
 ·obtain⟨e,_,rfl⟩:=List.mem_map.1 hq
  exact hon_lvl _ _,nodup_look (by rw[famT_keys];exact h.nd)⟩
end Tr
def ownL (L:List (List PairD)) (k:Nat):List LE:=(List.range k).map fun i=>mkL (i+1000) (L.getD i [])
def ownU (U:List (List Nat)) (k:Nat):List UE:=(List.range k).map fun i=>(i+2000,U.getD i [])
namespace Tr
theorem ownL_succ (L:List (List PairD)) (k:Nat):ownL L (k+1)=ownL L k++[mkL (k+1000) (L.getD k [])]:=by unfold ownL;rw[List.range_succ,List.map_append];rfl
theorem ownU_succ (U:List (List Nat)) (k:Nat):ownU U (k+1)=ownU U k++[(k+2000,U.getD k [])]:=by unfold ownU;rw[List.range_succ,List.map_append];rfl
theorem ownL_len (L:List (List PairD)) (k:Nat):(ownL L k).length=k:=by unfold ownL;simp
theorem ownU_len (U:List (List Nat)) (k:Nat):(ownU U k).length=k:=by unfold ownU;simp
theorem ownL_val (L:List (List PairD)):(ownL L L.length).map LE.val=L:=by
 refine List.ext_getElem (by rw[List.length_map,ownL_len]) fun i h1 h2=>?_
 rw[List.getElem_map]
 unfold ownL
 rw[List.getElem_map,List.getElem_range,mkL_val,List.getD_eq_getElem?_getD,List.getElem?_eq_getElem h2];rfl
theorem ownU_val (U:List (List Nat)):(ownU U U.length).map Prod.snd=U:=by
 refine List.ext_getElem (by rw[List.length_map,ownU_len]) fun i h1 h2=>?_
 rw[List.getElem_map]
 unfold ownU
 rw[List.getElem_map,List.getElem_range]
 show U.getD i []=_
 rw[List.getD_eq_getElem?_getD,List.getElem?_eq_getElem h2];rfl
theorem own_keys (L:List (List PairD)) (U:List (List Nat)) (n m:Nat):(ownL L n).map LE.k++(ownU U m).map Prod.fst=(List.range n).map (· + 1000)++(List.range m).map (· + 2000):=by
 unfold ownL ownU
 rw[List.map_map,List.map_map];rfl
theorem own_nm (L:List (List PairD)) (U:List (List Nat)) {n m:Nat} (hn:n≤64) (hm:m≤8):NmT (ownL L n) (ownU U m):=by
 refine⟨?_,fun k hk=>?_⟩
 ·rw[own_keys]
  refine List.nodup_append.2 ⟨?_,?_,fun a ha b hb e=>?_⟩
  ·exact List.Pairwise.map _ (fun a b h=>(by intro e;exact h (by omega))) List.nodup_range
  ·exact List.Pairwise.map _ (fun a b h=>(by intro e;exact h (by omega))) List.nodup_range
  ·obtain⟨i,hi,rfl⟩:=List.mem_map.1 ha
   obtain⟨j,hj,rfl⟩:=List.mem_map.1 hb
   have:=List.mem_range.1 hi
   omega
 ·rw[own_keys] at hk
  rcases List.mem_append.1 hk with hk | hk
  ·obtain⟨i,hi,rfl⟩:=List.mem_map.1 hk
   exact List.mem_append_left _ (List.mem_map.2 ⟨i,List.mem_range.2 (by have:=List.mem_range.1 hi;omega),rfl⟩)
  ·obtain⟨i,hi,rfl⟩:=List.mem_map.1 hk
   exact List.mem_append_right _ (List.mem_append_left _ (List.mem_map.2 ⟨i,List.mem_range.2 (by have:=List.mem_range.1 hi;omega),rfl⟩))
end Tr
namespace Tr
theorem wk_sub {fk:List Nat} {e:Env} {h:Hp} {le:List (Nat×PV)} {lh lh':Rf} {n:List Nat} (w:Wk fk e h le lh n) (hs:∀q∈lh',q∈lh):Wk fk e h le lh' n:=by
 obtain⟨f,hi,hf,he,hh⟩:=w
 have hm:∀{l:Rf},HLes (fnL f) n h l→∀q∈l,kin q.1 n=true∧KLe (fnL f) n h q.1 q.2:=by
  intro l
  induction l with
  | nil=>intro _ q hq;cases hq
  | cons p l ih=>
   obtain⟨k,b⟩:=p
   intro hl q hq
   unfold HLes at hl
   rcases List.mem_cons.1 hq with rfl | hq
   ·exact hl.1
   ·exact ih hl.2 q hq
 refine Wk.mk f (injOn_of fun p hp q hq hne a e1 e2=>hne ?_) hf he (hles_of fun q hq=>hm hh q (hs q hq))
 exact injOn_out hi _ _ _ _ _ (hs q hq) (hs p hp) e2 e1
theorem dless_join {f:Nat→Option Nat} {n:List Nat} {b d:List (List D)}:∀{a c:List (List D)},DLess f n a c→DLess f n b d→DLess f n (a++b) (c++d)
 | [],c,h1,h2=>by
  unfold DLess at h1
  rw[h1];exact h2
 | x::a,[],h1,h2=>by unfold DLess at h1;exact h1.elim
 | x::a,y::c,h1,h2=>by
  unfold DLess at h1
  rw[List.cons_append,List.cons_append]
  unfold DLess
  exact⟨h1.1,dless_join h1.2 h2⟩
theorem hles_out {f:Nat→Option Nat} {n:List Nat} {h:Hp}:∀{l:Rf},HLes f n h l→∀q∈l,kin q.1 n=true∧KLe f n h q.1 q.2
 | [],_,q,hq=>by cases hq
 | (k,b)::l,hl,q,hq=>by
  unfold HLes at hl
  rcases List.mem_cons.1 hq with rfl | hq
  ·exact hl.1
  ·exact hles_out hl.2 q hq
theorem ret_sub {fk fk':List Nat} {h:Hp} {res v:PV} {fin fin':Rf} (w:RetS fk h res fin v) (hs:∀q∈fin',q∈fin) (hk:∀k∈fk',k∈fk):RetS fk' h res fin' v:=by
 obtain⟨f,n,hi,hf,hr,hh⟩:=w
 have hfk:∀{l:List Nat},fkOk (fnL f) n l=true→∀k∈l,fnL f k=some k∧kin k n=true:=by
  intro l
  induction l with
  | nil=>intro _ k hk;cases hk
  | cons x l ih=>
   intro hl k hk
   unfold fkOk at hl
   rw[Bool.and_eq_true,Bool.and_eq_true] at hl
   rcases List.mem_cons.1 hk with rfl | hk
   ·refine⟨?_,hl.2.1⟩
    have h1:=hl.1
    cases hc:fnL f k with
    | none=>rw[hc] at h1;cases h1
    | some y=>rw[hc] at h1;rw[Nat.eq_of_beq_eq_true h1]
   ·exact ih hl.2.2 k hk
 have hff:∀l:List Nat,(∀k∈l,fnL f k=some k∧kin k n=true)→fkOk (fnL f) n l=true:=by
  intro l
  induction l with
  | nil=>intro _;rfl
  | cons x l ih=>
   intro hl
   obtain⟨h1,h2⟩:=hl x List.mem_cons_self
   unfold fkOk
   rw[h1,h2,ih fun k hk=>hl k (List.mem_cons_of_mem _ hk)]
   show (Nat.beq x x&&_)=true
   rw[Nat.beq_refl];rfl
 exact RetS.mk f n (injOn_of fun p hp q hq hne a e1 e2=>hne (injOn_out hi _ _ _ _ _ (hs q hq) (hs p hp) e2 e1)) (hff _ fun k hk'=>hfk hf k (hk k hk')) hr (hles_of fun q hq=>hles_out hh q (hs q hq))
theorem dless_fix {ks n:List Nat} {F:Nat→Nat} {l:List (List D)} (hn:∀k∈ks,k∈n) (h:∀r∈l,∀x∈r,on (fun k=>k∈ks∧F k=k) x):DLess (fnL (mR F ks)) n l l:=by
 have e:l.map (List.map (mp F))=l:=by
  conv=>rhs;rw[← List.map_id l]
  refine List.map_congr_left fun r hr=>?_
  show r.map (mp F)=r
  conv=>rhs;rw[← List.map_id r]
  exact List.map_congr_left fun x hx=>mp_same (p:=fun k=>k∈ks∧F k=k) (fun k hk=>hk.2) (h r hr x hx)
 have:=dless_mp (f:=fnL (mR F ks)) (n:=n) (F:=F) (l:=l) fun r hr x hx=>on_imp (fun k hk=>⟨kin_iff.2 (hn k hk.1),mR_in hk.1⟩) (h r hr x hx)
 rwa [e] at this
theorem wk_push {R:Rf} {h:Hp} {e:Env} {le:List (Nat×PV)} (hR:Fam R) (hno:∀q∈R,hon (fun _=>False) q.2) (z a:List Nat) (ls:List (Nat×Nat)) {out lz:Rf} (hfix:∀k∈R.map Prod.fst,fnL ls k=none) (hap:apart (out.map fun q=>Fl ls q.1)=true)
  (hkey:∀q∈out,q.1∈a++nT) (hz:∀q∈lz,q.1∈z∧q.1∉a++nT∧∃e sz,q.2=.darr e sz []∧0<sz) (hX:∀q∈R,h q.1=some q.2)
  (hL:∀q∈out,∃b',h (Fl ls q.1)=some b'∧HLe (fnL (mR (Fl ls) (a++nT))) (z++(a++nT)) q.2 b') (he:PLes (fnL (mR (Fl ls) (a++nT))) (z++(a++nT)) e le):Wk [] e h le (lz++(out++R)) (z++(a++nT)):=by
 have hN:∀k∈nT,k∈a++nT:=fun k hk=>List.mem_append_right _ hk
 have hF:∀k∈R.map Prod.fst,Fl ls k=k:=fun k hk=>by unfold Fl;rw[hfix k hk];rfl
 have hO:∀q∈out,farK (Fl ls q.1)=true:=fun q hq=>apart_far hap _ (List.mem_map.2 ⟨q,hq,rfl⟩)
 have hin:∀q∈out++R,q.1∈a++nT:=fun q hq=>by
  rcases List.mem_append.1 hq with hq | hq
  ·exact hkey q hq
  ·exact hN _ (hR.keys q hq).1
 have hinj:∀x∈out++R,∀y∈out++R,Fl ls x.1=Fl ls y.1→x.1=y.1:=fun x hx y hy e=>by
  rcases List.mem_append.1 hx with hx | hx<;>rcases List.mem_append.1 hy with hy | hy
  ·exact apart_inj (F:=Fl ls) (l:=out.map Prod.fst) (by rw[List.map_map];exact hap) _ (List.mem_map.2 ⟨x,hx,rfl⟩) _ (List.mem_map.2 ⟨y,hy,rfl⟩) e
  ·rw[hF _ (List.mem_map.2 ⟨y,hy,rfl⟩)] at e
   exact absurd (e ▸ (hR.keys y hy).1) (farK_out (hO x hx))
  ·rw[hF _ (List.mem_map.2 ⟨x,hx,rfl⟩)] at e
   exact absurd (e ▸ (hR.keys x hx).1) (farK_out (hO y hy))
  ·rwa [hF _ (List.mem_map.2 ⟨x,hx,rfl⟩),hF _ (List.mem_map.2 ⟨y,hy,rfl⟩)] at e
 have hnone:∀q∈lz,fnL (mR (Fl ls) (a++nT)) q.1=none:=fun q hq=>by
  cases hc:fnL (mR (Fl ls) (a++nT)) q.1 with
  | none=>rfl
  | some x=>exact absurd (mR_some hc).1 (hz q hq).2.1
 refine Wk.mk (mR (Fl ls) (a++nT)) (injOn_of fun p hp q hq hne x e1 e2=>?_) rfl he (hles_of fun q hq=>?_)
 ·have hp':p∈out++R:=by
   rcases List.mem_append.1 hp with hp | hp
   ·rw[hnone p hp] at e1;cases e1
   ·exact hp
  have hq':q∈out++R:=by
   rcases List.mem_append.1 hq with hq | hq
   ·rw[hnone q hq] at e2;cases e2
   ·exact hq
  exact hne (hinj q hq' p hp' (by rw[← (mR_some e1).2,← (mR_some e2).2]))
 ·rcases List.mem_append.1 hq with hq | hq
  ·obtain⟨h1,h2,e0,sz,h3,h4⟩:=hz q hq
   refine⟨kin_iff.2 (List.mem_append_left _ h1),?_⟩
   unfold KLe
   rw[hnone q hq,h3]
   exact⟨h4,rfl⟩
  ·refine⟨kin_iff.2 (List.mem_append_right _ (hin q hq)),?_⟩
   rcases List.mem_append.1 hq with hq | hq
   ·obtain⟨b',h1,h2⟩:=hL q hq
    exact kle_of (mR_in (hkey q hq)) h1 h2
   ·obtain⟨g1,g2⟩:=hR.keys q hq
    refine kle_of (mR_in (hN _ g1)) (b':=q.2) (by rw[hF _ (List.mem_map.2 ⟨q,hq,rfl⟩)];exact hX q hq) ?_
    have:=hle_mp (f:=fnL (mR (Fl ls) (a++nT))) (n:=z++(a++nT)) (F:=Fl ls) (hon_imp (fun k (hk:False)=>hk.elim) (hno q hq))
    rwa [hmp_same (F:=Fl ls) (fun k (hk:False)=>hk.elim) (hno q hq)] at this
end Tr
namespace Tr
theorem famT_no (es:List LE) (us:List UE):∀q∈famT es us,hon (fun _=>False) q.2:=fun q hq=>by
 rcases List.mem_append.1 hq with hq | hq
 ·obtain⟨e,_,rfl⟩:=List.mem_map.1 hq
  exact hon_leaf _ _
 ·obtain⟨e,_,rfl⟩:=List.mem_map.1 hq
  exact hon_lvl _ _
theorem fnL_skip {q c k:Nat} {l:List (Nat×Nat)} (h:k≠q):fnL ((q,c)::l) k=fnL l k:=by
 show (bif Nat.beq k q then some c else fnL l k)=_
 rw[nbeq h];rfl
theorem fnL_hit {q c:Nat} {l:List (Nat×Nat)}:fnL ((q,c)::l) q=some c:=by
 show (bif Nat.beq q q then some c else fnL l q)=_
 rw[Nat.beq_refl];rfl
theorem Fl_skip {q c k:Nat} {l:List (Nat×Nat)} (h:k≠q):Fl ((q,c)::l) k=Fl l k:=by unfold Fl;rw[fnL_skip h]
theorem Fl_hit {q c:Nat} {l:List (Nat×Nat)}:Fl ((q,c)::l) q=c:=by unfold Fl;rw[fnL_hit];rfl
theorem in_leaf {k:Nat} (h:k<70):k+1000∈nT:=List.mem_append_left _ (List.mem_map.2 ⟨k,List.mem_range.2 h,rfl⟩)
theorem in_lvl {k:Nat} (h:k<12):k+2000∈nT:=List.mem_append_right _ (List.mem_append_left _ (List.mem_map.2 ⟨k,List.mem_range.2 h,rfl⟩))
theorem ownL_row {L:List (List PairD)} {k:Nat}:∀r∈(ownL L k).map LE.row,∀x∈r,on (fun j=>∃i,i<k∧j=i+1000) x:=fun r hr x hx=>by
 unfold ownL at hr
 rw[List.map_map] at hr
 obtain⟨i,hi,rfl⟩:=List.mem_map.1 hr
 have hx:x∈[D.arr (i+1000) 38 2 0 (L.getD i []).length]:=hx
 rw[List.mem_singleton] at hx
 subst hx
 exact⟨i,List.mem_range.1 hi,rfl⟩
theorem ownU_row {U:List (List Nat)} {k:Nat}:∀r∈(ownU U k).map urow,∀x∈r,on (fun j=>∃i,i<k∧j=i+2000) x:=fun r hr x hx=>by
 unfold ownU at hr
 rw[List.map_map] at hr
 obtain⟨i,hi,rfl⟩:=List.mem_map.1 hr
 have hx:x∈[D.arr (i+2000) 3 1 0 (U.getD i []).length]:=hx
 rw[List.mem_singleton] at hx
 subst hx
 exact⟨i,List.mem_range.1 hi,rfl⟩
end Tr
set_option maxHeartbeats 1000000 in
theorem s_own (L:List (List PairD)) (U:List (List Nat)) (hL:L.length≤64) (hl:∀l∈L,0<l.length∧l.length≤4) (hU:U.length≤8) (hu:∀u∈U,0<u.length∧u.length≤64) :
  CallS Try.prog 36 [.agg [.c (.sl 1 (lvC L)),.c (.sl 1 (upC U))]] [] [] (.d (.ptr NK 0)) (nearT NK NK1 NK2 (ownL L L.length) (ownU U U.length)++famT (ownL L L.length) (ownU U U.length)):=by
 have hLl:(lvC L).length=L.length:=List.length_map _
 have hUl:(upC U).length=U.length:=List.length_map _
 refine callS_of Try.func36 (by rfl) rfl (by kernel_rfl) (by rfl) [] rfl ?_
 ((conv=>whnf);repeat' ((first|(with_reducible first|apply a_|apply b_|apply c_)|((with_reducible first|apply d_|apply e_|apply f_|apply g_);focus first|omega|(simp only[q_]<;>omega))|((with_reducible first|apply i_|apply h_);focus first|omega|(simp only[q_]<;>omega))|((with_reducible apply h_);focus first|decide|kernel_rfl)|refine s_ (by decide) ?_|refine t_ (by decide) ?_|with_reducible first|apply l_|apply m_|apply n_|apply o_|refine p_ (fun _=>?_) (fun _=>?_))<;>(conv=>whnf)))
 refine LoopC.mk Nat (fun k=>[(1,.d (.ptr 1 0)),(3,.d (.ptr 8 0)),(10,lvV L),(11,pInt .i64 L.length),(12,pInt .i64 (k:Int))])
  (fun k=>[(1,.box 25 [.c (.sl 1 (lvC L)),.c (.sl 1 (upC U))]),(8,.box 61 [.arr 150 28 1 0 k,.c (.v (.slice none 0 0))]),(150,.darr 28 1 ((ownL L k).map LE.row))]++(ownL L k).map LE.fam) ([1,8,150]++nT)
  (fun k=>k≤L.length) (fun k=>L.length - k) 0 (Nat.zero_le _) ?start ?round
 case start=>
  refine⟨[(1,1),(8,8)],rfl,rfl,⟨⟨rfl,rfl,rfl⟩,⟨rfl,rfl,rfl⟩,.inl rfl,PLe.int (by rw[hLl]),.inl rfl,trivial⟩,⟨rfl,?_⟩,⟨rfl,?_⟩,⟨rfl,?_⟩,trivial⟩
  ·exact⟨rfl,.inl rfl,.inl rfl,rfl⟩
  ·exact⟨rfl,⟨rfl,rfl,by decide,rfl,rfl⟩,.inl rfl,rfl⟩
  ·exact⟨by decide,rfl⟩
 case round=>
  intro k hk
  have hk:k≤L.length:=hk
  by_cases hkL:k<L.length
  ·obtain⟨l,hle⟩:∃l,l=L[k]:=⟨_,rfl⟩
   obtain⟨hl0,hl4⟩:=hl l (by rw[hle];exact List.getElem_mem hkL)
   have hrow:(lvC L)[k]? = some [.sl 2 (l.map PairD.c)]:=by
    unfold lvC
    rw[List.getElem?_map,List.getElem?_eq_getElem hkL,hle];rfl
   have hlm:(l.map PairD.c).length=l.length:=List.length_map _
   have sc:=s_clone_pair (l.map PairD.c) (by intro e;rw[e] at hlm;simp at hlm;omega) (by omega)
   have n1:k≤((ownL L k).map LE.row).length:=by rw[List.length_map,ownL_len];exact Nat.le_refl _
   have n2:(k+1)*24≤140737488355328:=by omega
   ((conv=>whnf);repeat' ((first|(with_reducible first|apply a_|apply b_|apply c_)|((with_reducible first|apply d_|apply e_|apply f_|apply g_);focus first|omega|(simp only[q_]<;>omega))|((with_reducible first|apply i_|apply h_);focus first|omega|(simp only[q_]<;>omega))|((with_reducible apply h_);focus first|decide|kernel_rfl)|refine s_ (by decide) ?_|refine t_ (by decide) ?_|(refine Idx.at' hrow rfl ?_)|(refine CallP.ret [(NK,23)] _ _ _ _ _ _ _ sc rfl rfl rfl rfl trivial ?_)|(refine Need.mk n1 ?_)|(refine Need.by1 24 rfl n2 ?_)|with_reducible first|apply l_|apply m_|apply n_|apply o_|refine p_ (fun _=>?_) (fun _=>?_))<;>(conv=>whnf)))
   all_goals first
    | (exfalso;omega)
    | skip
   have hnm:=own_nm L [] (n:=k) (m:=0) (by omega) (by omega)
   have hR:=nm_fam hnm
   have hkR:∀x∈(famT (ownL L k) (ownU [] 0)).map Prod.fst,∃i,i<k∧x=i+1000:=fun x hx=>by
    rw[famT_keys,own_keys] at hx
    rcases List.mem_append.1 hx with hx | hx
    ·obtain⟨i,hi,rfl⟩:=List.mem_map.1 hx
     exact⟨i,List.mem_range.1 hi,rfl⟩
    ·cases hx
   have hk64:k<64:=by omega
   have f1:Fl [(150,25),(k+1000,23)] 1=1:=by rw[Fl_skip (by decide),Fl_skip (by omega)];rfl
   have f8:Fl [(150,25),(k+1000,23)] 8=8:=by rw[Fl_skip (by decide),Fl_skip (by omega)];rfl
   have f150:Fl [(150,25),(k+1000,23)] 150=25:=Fl_hit
   have fk:Fl [(150,25),(k+1000,23)] (k+1000)=23:=by rw[Fl_skip (by omega)];exact Fl_hit
   have hgk:L.getD k []=l:=by rw[hle,List.getD_eq_getElem?_getD,List.getElem?_eq_getElem hkL];rfl
   have m:∀j∈[1,8,150]++nT,fnL (mR (Fl [(150,25),(k+1000,23)]) ([1,8,150]++nT)) j=some (Fl [(150,25),(k+1000,23)] j):=fun j hj=>mR_in hj
   refine⟨k+1,hkL,by show L.length - (k+1)<L.length - k;omega,wk_sub (wk_push hR (famT_no _ _) [] [1,8,150] [(150,25),(k+1000,23)] (lz:=[])
    (out:=[(1,.box 25 [.c (.sl 1 (lvC L)),.c (.sl 1 (upC U))]),(8,.box 61 [.arr 150 28 1 0 (k+1),.c (.v (.slice none 0 0))]),(150,.darr 28 1 ((ownL L (k+1)).map LE.row)),(k+1000,leafH l)])
    (fun x hx=>?_) ?_ (fun q hq=>?_) (fun q hq=>(by cases hq)) (fun q hq=>?_) (fun q hq=>?_) ?_) (fun q hq=>?_)⟩
   ·obtain⟨i,hi,rfl⟩:=hkR x hx
    rw[fnL_skip (by omega),fnL_skip (by omega)];rfl
   ·show apart [Fl [(150,25),(k+1000,23)] 1,Fl [(150,25),(k+1000,23)] 8,Fl [(150,25),(k+1000,23)] 150,Fl [(150,25),(k+1000,23)] (k+1000)]=true
    rw[f1,f8,f150,fk];rfl
   ·simp only[List.mem_cons,List.not_mem_nil,or_false] at hq
    rcases hq with rfl | rfl | rfl | rfl
    ·exact List.mem_append_left _ (show 1∈[1,8,150] by decide)
    ·exact List.mem_append_left _ (show 8∈[1,8,150] by decide)
    ·exact List.mem_append_left _ (show 150∈[1,8,150] by decide)
    ·exact List.mem_append_right _ (in_leaf (by omega))
   ·have hb:=(hR.keys q hq).1
    repeat refine app_fam rfl hb ?_
    refine (congrArg (fun r=>hpL r q.1) ?_).trans (hR.past (a:=[(1,.box 25 [.c (.sl 1 (lvC L)),.c (.sl 1 (upC U))]),(8,.box 61 [.arr 150 28 1 0 k,.c (.v (.slice none 0 0))]),(150,.darr 28 1 ((ownL L k).map LE.row))]) rfl hq)
    show _++(ownL L k).map LE.fam=_++((ownL L k).map LE.fam++[])
    rw[List.append_nil]
   ·simp only[List.mem_cons,List.not_mem_nil,or_false] at hq
    rcases hq with rfl | rfl | rfl | rfl
    ·rw[f1]
     exact⟨_,rfl,rfl,.inl rfl,.inl rfl,rfl⟩
    ·rw[f8]
     exact⟨_,rfl,rfl,⟨rfl,m 150 (by decide),rfl,rfl,rfl,rfl⟩,.inl rfl,rfl⟩
    ·rw[f150]
     refine⟨_,rfl,rfl,rfl,?_⟩
     rw[ownL_succ,List.map_append]
     refine dless_join ?_ ⟨⟨⟨kin_iff.2 (show k+1000∈[1,8,150]++nT from List.mem_append_right _ (in_leaf (by omega))),(m (k+1000) (List.mem_append_right _ (in_leaf (by omega)))).trans (congrArg some fk),rfl,rfl,rfl,?_⟩,rfl⟩,rfl⟩
     ·rw[List.take_of_length_le (by rw[List.length_map,ownL_len];exact Nat.le_refl _)]
      refine dless_fix (fun _ h=>h) fun r hr x hx=>on_imp ?_ (ownL_row r hr x hx)
      rintro j ⟨i,hi,rfl⟩
      exact⟨List.mem_append_right _ (in_leaf (by omega)),by rw[Fl_skip (by omega),Fl_skip (by omega)];rfl⟩
     ·show (l.map PairD.c).length=(L.getD k []).length
      rw[hgk,hlm]
    ·rw[fk]
     exact⟨_,rfl,rfl,rfl,rfl⟩
   ·exact⟨⟨rfl,m 1 (by decide),rfl⟩,⟨rfl,m 8 (by decide),rfl⟩,.inl rfl,.inl rfl,PLe.int (by push_cast;rfl),trivial⟩
   ·show q∈[]++([_,_,_,(k+1000,leafH l)]++((ownL L k).map LE.fam++[]))
    rw[List.append_nil,List.nil_append]
    have hq:q∈[_,_,_]++(ownL L (k+1)).map LE.fam:=hq
    rcases List.mem_append.1 hq with hq | hq
    ·refine List.mem_append_left _ ?_
     simp only[List.mem_cons,List.not_mem_nil,or_false] at hq ⊢
     rcases hq with h | h | h
     ·exact .inl h
     ·exact .inr (.inl h)
     ·exact .inr (.inr (.inl h))
    ·rw[ownL_succ,List.map_append] at hq
     rcases List.mem_append.1 hq with hq | hq
     ·exact List.mem_append_right _ hq
     ·refine List.mem_append_left _ ?_
      have hq:q∈[(k+1000,leafH (L.getD k []))]:=hq
      rw[List.mem_singleton,hgk] at hq
      simp only[List.mem_cons,List.not_mem_nil,or_false]
      exact .inr (.inr (.inr hq))
  ·obtain⟨es,hes⟩:∃es,es=ownL L L.length:=⟨_,rfl⟩
   have hkk:k=L.length:=by omega
   rw[hkk,← hes]
   have hesl:es.length=L.length:=by rw[hes];exact ownL_len _ _
   have hesr:∀r∈es.map LE.row,∀x∈r,on (fun j=>∃i,i<L.length∧j=i+1000) x:=by rw[hes];exact ownL_row
   have hnmk:∀k,k≤U.length→NmT es (ownU U k):=fun k hk=>by rw[hes];exact own_nm L U (by omega) (by omega)
   have hekey:∀x∈es.map LE.k,∃i,i<L.length∧x=i+1000:=fun x hx=>by
    rw[hes] at hx
    unfold ownL at hx
    rw[List.map_map] at hx
    obtain⟨i,hi,rfl⟩:=List.mem_map.1 hx
    exact⟨i,List.mem_range.1 hi,rfl⟩
   have hkRk:∀k,∀x∈(famT es (ownU U k)).map Prod.fst,(∃i,i<L.length∧x=i+1000)∨∃i,i<k∧x=i+2000:=fun k x hx=>by
    rw[famT_keys] at hx
    rcases List.mem_append.1 hx with hx | hx
    ·exact .inl (hekey x hx)
    ·right
     unfold ownU at hx
     rw[List.map_map] at hx
     obtain⟨i,hi,rfl⟩:=List.mem_map.1 hx
     exact⟨i,List.mem_range.1 hi,rfl⟩
   ((conv=>whnf);repeat' ((first|(with_reducible first|apply a_|apply b_|apply c_)|((with_reducible first|apply d_|apply e_|apply f_|apply g_);focus first|omega|(simp only[q_]<;>omega))|((with_reducible first|apply i_|apply h_);focus first|omega|(simp only[q_]<;>omega))|((with_reducible apply h_);focus first|decide|kernel_rfl)|refine s_ (by decide) ?_|refine t_ (by decide) ?_|with_reducible first|apply l_|apply m_|apply n_|apply o_|refine p_ (fun _=>?_) (fun _=>?_))<;>(conv=>whnf)))
   all_goals first
    | (exfalso;omega)
    | skip
   refine LoopC.mk Nat (fun k=>[(3,.d (.ptr 8 0)),(31,.d (.c (.sl 1 (upC U)))),(32,pInt .i64 U.length),(33,pInt .i64 (k:Int))])
    (fun k=>[(8,.box 61 [.arr 150 28 1 0 L.length,.arr 151 54 1 0 k]),(150,.darr 28 1 (es.map LE.row)),(151,.darr 54 1 ((ownU U k).map urow))]++famT es (ownU U k)) ([151]++([8,150]++nT))
    (fun k=>k≤U.length) (fun k=>U.length - k) 0 (Nat.zero_le _) ?start2 ?round2
   case start2=>
    have hR:=nm_fam (hnmk 0 (Nat.zero_le _))
    have m:∀j∈[8,150]++nT,fnL (mR (Fl []) ([8,150]++nT)) j=some j:=fun j hj=>mR_in hj
    refine wk_sub (wk_push hR (famT_no _ _) [151] [8,150] [] (lz:=[(151,.darr 54 1 [])])
     (out:=[(8,.box 61 [.arr 150 28 1 0 L.length,.arr 151 54 1 0 0]),(150,.darr 28 1 (es.map LE.row))])
     (fun x hx=>rfl) rfl (fun q hq=>?_) (fun q hq=>?_) (fun q hq=>?_) (fun q hq=>?_) ?_) (fun q hq=>?_)
    ·simp only[List.mem_cons,List.not_mem_nil,or_false] at hq
     rcases hq with rfl | rfl
     ·exact List.mem_append_left _ (show 8∈[8,150] by decide)
     ·exact List.mem_append_left _ (show 150∈[8,150] by decide)
    ·rw[List.mem_singleton] at hq
     subst hq
     refine⟨List.mem_singleton.2 rfl,fun hm=>?_,_,_,rfl,by decide⟩
     rcases List.mem_append.1 hm with hm | hm
     ·exact absurd (show 151∈[8,150] from hm) (by decide)
     ·exact farK_out (show farK 151=true from rfl) hm
    ·have hb:=(hR.keys q hq).1
     repeat refine app_fam rfl hb ?_
     refine (congrArg (fun r=>hpL r q.1) ?_).trans (hR.past (a:=[(1,.box 25 [.c (.sl 1 (lvC L)),.c (.sl 1 (upC U))]),(8,.box 61 [.arr 150 28 1 0 L.length,.c (.v (.slice none 0 0))]),(150,.darr 28 1 (es.map LE.row))]) rfl hq)
     show _++es.map LE.fam=_++(es.map LE.fam++[])
     rw[List.append_nil]
    ·simp only[List.mem_cons,List.not_mem_nil,or_false] at hq
     rcases hq with rfl | rfl
     ·refine⟨_,rfl,rfl,⟨rfl,m 150 (by decide),rfl,rfl,rfl,rfl⟩,⟨rfl,rfl,by decide,rfl,rfl⟩,rfl⟩
     ·refine⟨_,rfl,rfl,rfl,dless_fix (fun j h=>List.mem_append_right _ h) fun r hr x hx=>on_imp ?_ (hesr r hr x hx)⟩
      rintro j ⟨i,hi,rfl⟩
      exact⟨List.mem_append_right _ (in_leaf (by omega)),rfl⟩
    ·exact⟨⟨rfl,m 8 (by decide),rfl⟩,.inl rfl,PLe.int (by rw[hUl]),.inl rfl,trivial⟩
    ·have hq:q∈[_,_,(151,_)]++famT es (ownU U 0):=hq
     show q∈[(151,_)]++([_,_]++famT es (ownU U 0))
     rcases List.mem_append.1 hq with hq | hq
     ·simp only[List.mem_cons,List.not_mem_nil,or_false] at hq
      rcases hq with h | h | h
      ·exact List.mem_append_right _ (List.mem_append_left _ (by rw[h];simp))
      ·exact List.mem_append_right _ (List.mem_append_left _ (by rw[h];simp))
      ·exact List.mem_append_left _ (by rw[h];exact List.mem_singleton.2 rfl)
     ·exact List.mem_append_right _ (List.mem_append_right _ hq)
   case round2=>
    intro j hj
    have hj:j≤U.length:=hj
    have hR:=nm_fam (hnmk j hj)
    by_cases hjU:j<U.length
    ·obtain⟨u,hue⟩:∃u,u=U[j]:=⟨_,rfl⟩
     obtain⟨hu0,hu4⟩:=hu u (by rw[hue];exact List.getElem_mem hjU)
     have hrow:(upC U)[j]? = some [.sl 1 (u.map natC)]:=by
      unfold upC
      rw[List.getElem?_map,List.getElem?_eq_getElem hjU,hue];rfl
     have hum:(u.map natC).length=u.length:=List.length_map _
     have sc:=s_clone_int (u.map natC) (by intro e;rw[e] at hum;simp at hum;omega) (by omega)
     have n1:j≤((ownU U j).map urow).length:=by rw[List.length_map,ownU_len];exact Nat.le_refl _
     have n2:(j+1)*24≤140737488355328:=by omega
     ((conv=>whnf);repeat' ((first|(with_reducible first|apply a_|apply b_|apply c_)|((with_reducible first|apply d_|apply e_|apply f_|apply g_);focus first|omega|(simp only[q_]<;>omega))|((with_reducible first|apply i_|apply h_);focus first|omega|(simp only[q_]<;>omega))|((with_reducible apply h_);focus first|decide|kernel_rfl)|refine s_ (by decide) ?_|refine t_ (by decide) ?_|(refine Idx.at' hrow rfl ?_)|(refine CallP.ret [(NK,44)] _ _ _ _ _ _ _ sc rfl rfl rfl rfl trivial ?_)|(refine Need.mk n1 ?_)|(refine Need.by1 24 rfl n2 ?_)|with_reducible first|apply l_|apply m_|apply n_|apply o_|refine p_ (fun _=>?_) (fun _=>?_))<;>(conv=>whnf)))
     all_goals first
      | (exfalso;omega)
      | skip
     have hj8:j<8:=by omega
     have f8:Fl [(151,46),(j+2000,44)] 8=8:=by rw[Fl_skip (by decide),Fl_skip (by omega)];rfl
     have f150:Fl [(151,46),(j+2000,44)] 150=150:=by rw[Fl_skip (by decide),Fl_skip (by omega)];rfl
     have f151:Fl [(151,46),(j+2000,44)] 151=46:=Fl_hit
     have fk:Fl [(151,46),(j+2000,44)] (j+2000)=44:=by rw[Fl_skip (by omega)];exact Fl_hit
     have hgk:U.getD j []=u:=by rw[hue,List.getD_eq_getElem?_getD,List.getElem?_eq_getElem hjU];rfl
     have m:∀k∈[151,8,150]++nT,fnL (mR (Fl [(151,46),(j+2000,44)]) ([151,8,150]++nT)) k=some (Fl [(151,46),(j+2000,44)] k):=fun k hk=>mR_in hk
     refine⟨j+1,hjU,by show U.length - (j+1)<U.length - j;omega,wk_sub (wk_push hR (famT_no _ _) [] [151,8,150] [(151,46),(j+2000,44)] (lz:=[])
      (out:=[(8,.box 61 [.arr 150 28 1 0 L.length,.arr 151 54 1 0 (j+1)]),(150,.darr 28 1 (es.map LE.row)),(151,.darr 54 1 ((ownU U (j+1)).map urow)),(j+2000,lvlH u)])
      (fun x hx=>?_) ?_ (fun q hq=>?_) (fun q hq=>(by cases hq)) (fun q hq=>?_) (fun q hq=>?_) ?_) (fun q hq=>?_)⟩
     ·rcases hkRk j x hx with ⟨i,hi,rfl⟩ | ⟨i,hi,rfl⟩
      ·rw[fnL_skip (by omega),fnL_skip (by omega)];rfl
      ·rw[fnL_skip (by omega),fnL_skip (by omega)];rfl
     ·show apart [Fl [(151,46),(j+2000,44)] 8,Fl [(151,46),(j+2000,44)] 150,Fl [(151,46),(j+2000,44)] 151,Fl [(151,46),(j+2000,44)] (j+2000)]=true
      rw[f8,f150,f151,fk];rfl
     ·simp only[List.mem_cons,List.not_mem_nil,or_false] at hq
      rcases hq with rfl | rfl | rfl | rfl
      ·exact List.mem_append_left _ (show 8∈[151,8,150] by decide)
      ·exact List.mem_append_left _ (show 150∈[151,8,150] by decide)
      ·exact List.mem_append_left _ (show 151∈[151,8,150] by decide)
      ·exact List.mem_append_right _ (in_lvl (by omega))
     ·have hb:=(hR.keys q hq).1
      repeat refine app_fam rfl hb ?_
      exact hR.past (a:=[(8,.box 61 [.arr 150 28 1 0 L.length,.arr 151 54 1 0 j]),(150,.darr 28 1 (es.map LE.row)),(151,.darr 54 1 ((ownU U j).map urow))]) rfl hq
     ·simp only[List.mem_cons,List.not_mem_nil,or_false] at hq
      rcases hq with rfl | rfl | rfl | rfl
      ·rw[f8]
       exact⟨_,rfl,rfl,⟨rfl,(m 150 (by decide)).trans (congrArg some f150),rfl,rfl,rfl,rfl⟩,⟨rfl,m 151 (by decide),rfl,rfl,rfl,rfl⟩,rfl⟩
      ·rw[f150]
       refine⟨_,rfl,rfl,rfl,dless_fix (fun _ h=>h) fun r hr x hx=>on_imp ?_ (hesr r hr x hx)⟩
       rintro i0 ⟨i,hi,rfl⟩
       exact⟨List.mem_append_right _ (in_leaf (by omega)),by rw[Fl_skip (by omega),Fl_skip (by omega)];rfl⟩
      ·rw[f151]
       refine⟨_,rfl,rfl,rfl,?_⟩
       rw[ownU_succ,List.map_append]
       refine dless_join ?_ ⟨⟨⟨kin_iff.2 (show j+2000∈[151,8,150]++nT from List.mem_append_right _ (in_lvl (by omega))),(m (j+2000) (List.mem_append_right _ (in_lvl (by omega)))).trans (congrArg some fk),rfl,rfl,rfl,?_⟩,rfl⟩,rfl⟩
       ·rw[List.take_of_length_le (by rw[List.length_map,ownU_len];exact Nat.le_refl _)]
        refine dless_fix (fun _ h=>h) fun r hr x hx=>on_imp ?_ (ownU_row r hr x hx)
        rintro i0 ⟨i,hi,rfl⟩
        exact⟨List.mem_append_right _ (in_lvl (by omega)),by rw[Fl_skip (by omega),Fl_skip (by omega)];rfl⟩
       ·show (u.map natC).length=(U.getD j []).length
        rw[hgk,hum]
      ·rw[fk]
       exact⟨_,rfl,rfl,rfl,rfl⟩
     ·exact⟨⟨rfl,(m 8 (by decide)).trans (congrArg some f8),rfl⟩,.inl rfl,.inl rfl,PLe.int (by push_cast;rfl),trivial⟩
     ·show q∈[]++([_,_,_,(j+2000,lvlH u)]++famT es (ownU U j))
      have hq:q∈[_,_,_]++famT es (ownU U (j+1)):=hq
      rw[List.nil_append]
      rcases List.mem_append.1 hq with hq | hq
      ·refine List.mem_append_left _ ?_
       simp only[List.mem_cons,List.not_mem_nil,or_false] at hq ⊢
       rcases hq with h | h | h
       ·exact .inl h
       ·exact .inr (.inl h)
       ·exact .inr (.inr (.inl h))
      ·rcases List.mem_append.1 hq with hq | hq
       ·exact List.mem_append_right _ (List.mem_append_left _ hq)
       ·rw[ownU_succ,List.map_append] at hq
        rcases List.mem_append.1 hq with hq | hq
        ·exact List.mem_append_right _ (List.mem_append_right _ hq)
        ·refine List.mem_append_left _ ?_
         have hq:q∈[(j+2000,lvlH (U.getD j []))]:=hq
         rw[List.mem_singleton,hgk] at hq
         simp only[List.mem_cons,List.not_mem_nil,or_false]
         exact .inr (.inr (.inr hq))
    ·have hjj:j=U.length:=by omega
     rw[hjj] at hR ⊢
     ((conv=>whnf);repeat' ((first|(with_reducible first|apply a_|apply b_|apply c_)|((with_reducible first|apply d_|apply e_|apply f_|apply g_);focus first|omega|(simp only[q_]<;>omega))|((with_reducible first|apply i_|apply h_);focus first|omega|(simp only[q_]<;>omega))|((with_reducible apply h_);focus first|decide|kernel_rfl)|refine s_ (by decide) ?_|refine t_ (by decide) ?_|with_reducible first|apply l_|apply m_|apply n_|apply o_|refine p_ (fun _=>?_) (fun _=>?_))<;>(conv=>whnf)))
     all_goals first
      | (exfalso;omega)
      | skip
     refine ret_sub (ret_fam hR [] [(NK,8),(NK1,150),(NK2,151)] (out:=nearT NK NK1 NK2 es (ownU U U.length)) rfl (fun q hq=>?_) ⟨⟨_,rfl,?_⟩,⟨_,rfl,?_⟩,⟨_,rfl,?_⟩,trivial⟩ ?_) (fun q hq=>?_) (fun k hk=>(by cases hk))
     ·have hb:=(hR.keys q hq).1
      repeat refine app_fam rfl hb ?_
      exact hR.past (a:=[(8,.box 61 [.arr 150 28 1 0 L.length,.arr 151 54 1 0 U.length]),(150,.darr 28 1 (es.map LE.row)),(151,.darr 54 1 ((ownU U U.length).map urow))]) rfl hq
     ·rw[hesl,ownU_len]
      exact⟨rfl,⟨rfl,rfl,rfl,rfl,rfl,rfl⟩,⟨rfl,rfl,rfl,rfl,rfl,rfl⟩,rfl⟩
     ·refine⟨rfl,rfl,dless_fix (fun j h=>h) fun r hr x hx=>on_imp ?_ (hesr r hr x hx)⟩
      rintro i0 ⟨i,hi,rfl⟩
      exact⟨List.mem_append_right _ (List.mem_append_right _ (in_leaf (by omega))),Fl_out rfl (in_leaf (by omega))⟩
     ·refine⟨rfl,rfl,dless_fix (fun j h=>h) fun r hr x hx=>on_imp ?_ (ownU_row r hr x hx)⟩
      rintro i0 ⟨i,hi,rfl⟩
      exact⟨List.mem_append_right _ (List.mem_append_right _ (in_lvl (by omega))),Fl_out rfl (in_lvl (by omega))⟩
     ·exact⟨rfl,rfl,rfl⟩
     ·have hq:q∈nearT NK NK1 NK2 es (ownU U U.length)++famT es (ownU U U.length):=hq
      rcases List.mem_append.1 hq with hq | hq
      ·exact List.mem_append_right _ hq
      ·exact List.mem_append_left _ hq
end Go.Proofs.Ythejollbijglcaa.Pm
end
section
namespace Go.Proofs.Ythejollbijglcaa.Pm
open Go.RowKit K
set_option maxRecDepth 100000
set_option maxRecDepth 100000
open Tr
abbrev tIn (es:List LE) (us:List UE):Rf:=nearT FK FK1 FK2 es us++famT es us
abbrev tOut (es:List LE) (us:List UE):Rf:=nearT FK NK1 NK2 es us++famT es us
abbrev namesT (es:List LE) (us:List UE):List Nat:=es.map LE.k++us.map Prod.fst
def LE.ok (e:LE):Prop:=e.lo+e.n≤e.a.length
def LE.mv (F:Nat→Nat) (e:LE):LE:=⟨F e.k,e.lo,e.n,e.a⟩
def umv (F:Nat→Nat) (p:UE):UE:=(F p.1,p.2)
namespace Tr
theorem row_mv (F:Nat→Nat) (es:List LE):(es.map LE.row).map (List.map (mp F))=(es.map (LE.mv F)).map LE.row:=by
 rw[List.map_map,List.map_map];rfl
theorem urow_mv (F:Nat→Nat) (us:List UE):(us.map urow).map (List.map (mp F))=(us.map (umv F)).map urow:=by
 rw[List.map_map,List.map_map];rfl
theorem mv_same {F:Nat→Nat} {es:List LE} (h:∀e∈es,F e.k=e.k):es.map (LE.mv F)=es:=by
 conv=>rhs;rw[← List.map_id es]
 refine List.map_congr_left fun e he=>?_
 show (⟨F e.k,e.lo,e.n,e.a⟩:LE)=e
 rw[h e he]
theorem umv_same {F:Nat→Nat} {us:List UE} (h:∀p∈us,F p.1=p.1):us.map (umv F)=us:=by
 conv=>rhs;rw[← List.map_id us]
 refine List.map_congr_left fun p hp=>?_
 show (F p.1,p.2)=p
 rw[h p hp]
theorem fam_mv (F:Nat→Nat) (es:List LE) (us:List UE):(famT es us).map (qmp F)=famT (es.map (LE.mv F)) (us.map (umv F)):=by
 show _=(es.map (LE.mv F)).map LE.fam++(us.map (umv F)).map ufam
 rw[List.map_append,List.map_map,List.map_map,List.map_map,List.map_map]
 congr 1
 ·refine List.map_congr_left fun e _=>?_
  show (F e.k,hmp F (leafH e.a))=(F e.k,leafH e.a)
  rw[hmp_leaf]
 ·refine List.map_congr_left fun p _=>?_
  show (F p.1,hmp F (lvlH p.2))=(F p.1,lvlH p.2)
  rw[hmp_lvl]
theorem near_mv (F:Nat→Nat) (b l u:Nat) (es:List LE) (us:List UE):(nearT b l u es us).map (qmp F)=nearT (F b) (F l) (F u) (es.map (LE.mv F)) (us.map (umv F)):=by
 show [_,_,_]=[_,_,_]
 rw[← row_mv,← urow_mv,List.length_map,List.length_map];rfl
theorem row_on (es:List LE) (us:List UE):∀r∈es.map LE.row,∀x∈r,on (·∈namesT es us) x:=fun r hr x hx=>by
 obtain⟨e,he,rfl⟩:=List.mem_map.1 hr
 have hx:x∈[D.arr e.k 38 2 e.lo e.n]:=hx
 rw[List.mem_singleton] at hx
 subst hx
 exact List.mem_append_left _ (List.mem_map.2 ⟨e,he,rfl⟩)
theorem urow_on (es:List LE) (us:List UE):∀r∈us.map urow,∀x∈r,on (·∈namesT es us) x:=fun r hr x hx=>by
 obtain⟨e,he,rfl⟩:=List.mem_map.1 hr
 have hx:x∈[D.arr e.1 3 1 0 e.2.length]:=hx
 rw[List.mem_singleton] at hx
 subst hx
 exact List.mem_append_right _ (List.mem_map.2 ⟨e,he,rfl⟩)
theorem clR_leaves {H:Hp}:∀{es:List LE},(∀e∈es,H e.k=some (leafH e.a)∧e.ok)→ClR H (es.map LE.row) (lvC (es.map LE.val))
 | [],_=>by show ClR H [] [];unfold ClR;rfl
 | e::es,h=>by
  obtain⟨h1,h2⟩:=h e List.mem_cons_self
  show ClR H ([D.arr e.k 38 2 e.lo e.n]::es.map LE.row) ([C.sl 2 (e.val.map PairD.c)]::lvC (es.map LE.val))
  unfold ClR
  refine⟨?_,clR_leaves fun x hx=>h x (List.mem_cons_of_mem _ hx)⟩
  unfold ClL
  refine⟨?_,by unfold ClL;rfl⟩
  unfold D.closeA
  dsimp only
  rw[h1]
  unfold leafH
  refine⟨e.a.map PairD.c,rfl,by rw[List.length_map];exact h2,?_⟩
  unfold LE.val
  rw[List.map_take,List.map_drop]
theorem clR_levels {H:Hp}:∀{us:List UE},(∀p∈us,H p.1=some (lvlH p.2))→ClR H (us.map urow) (upC (us.map Prod.snd))
 | [],_=>by show ClR H [] [];unfold ClR;rfl
 | p::us,h=>by
  have h1:=h p List.mem_cons_self
  show ClR H ([D.arr p.1 3 1 0 p.2.length]::us.map urow) ([C.sl 1 (p.2.map natC)]::upC (us.map Prod.snd))
  unfold ClR
  refine⟨?_,clR_levels fun x hx=>h x (List.mem_cons_of_mem _ hx)⟩
  unfold ClL
  refine⟨?_,by unfold ClL;rfl⟩
  unfold D.closeA
  dsimp only
  rw[h1]
  unfold lvlH
  refine⟨p.2.map natC,rfl,by rw[List.length_map];omega,?_⟩
  rw[List.drop_zero,List.take_of_length_le (by rw[List.length_map];exact Nat.le_refl _)]
theorem close_tree {H:Hp} {l u:Nat} {es:List LE} {us:List UE} {K:List C→Prop} (h1:H l=some (.darr 28 1 (es.map LE.row))) (h2:H u=some (.darr 54 1 (us.map urow))) (hf:∀q∈famT es us,H q.1=some q.2) (hok:∀e∈es,e.ok)
  (hk:K [.sl 1 (lvC (es.map LE.val)),.sl 1 (upC (us.map Prod.snd))]):closeHL H [.arr l 28 1 0 es.length,.arr u 54 1 0 us.length] K:=by
 unfold closeHL D.closeH
 dsimp only
 rw[h1]
 refine RowsC.mk _ (clR_leaves fun e he=>⟨hf _ (List.mem_append_left _ (List.mem_map.2 ⟨e,he,rfl⟩)),hok e he⟩) (Need.mk (by unfold lvC;rw[List.length_map,List.length_map];omega) ?_)
 unfold closeHL D.closeH
 dsimp only
 rw[h2]
 refine RowsC.mk _ (clR_levels fun e he=>hf _ (List.mem_append_right _ (List.mem_map.2 ⟨e,he,rfl⟩))) (Need.mk (by unfold upC;rw[List.length_map,List.length_map];omega) ?_)
 unfold closeHL
 rw[List.drop_zero,List.drop_zero,List.take_of_length_le (by unfold lvC;rw[List.length_map,List.length_map];exact Nat.le_refl _),List.take_of_length_le (by unfold upC;rw[List.length_map,List.length_map];exact Nat.le_refl _)]
 exact hk
theorem tIn_keys (b l u:Nat) (es:List LE) (us:List UE):(nearT b l u es us++famT es us).map Prod.fst=[b,l,u]++namesT es us:=by
 rw[List.map_append,famT_keys];rfl
theorem tIn_nd {b l u:Nat} (h:apart [b,l,u]=true) {es:List LE} {us:List UE} (hn:NmT es us):((nearT b l u es us++famT es us).map Prod.fst).Nodup:=by
 rw[tIn_keys]
 refine List.nodup_append.2 ⟨?_,hn.nd,fun x hx y hy e=>?_⟩
 ·unfold apart apart apart at h
  simp only[List.all_cons,List.all_nil,Bool.and_true,Bool.and_eq_true,Bool.not_eq_true'] at h
  have ne:∀{a b:Nat},Nat.beq a b=false→a≠b:=fun {a b} h e=>by subst e;rw[Nat.beq_refl] at h;cases h
  have h1:=ne h.2.1.1
  have h2:=ne h.2.1.2
  have h3:=ne h.2.2.2.1
  simp only[List.nodup_cons,List.mem_cons,List.not_mem_nil,or_false,not_or,not_false_eq_true,List.nodup_nil,and_true]
  exact⟨⟨fun e=>h1 e.symm,fun e=>h2 e.symm⟩,fun e=>h3 e.symm⟩
 ·subst e
  exact farK_out (apart_far h x hx) (hn.inn x hy)
theorem look_near {b l u:Nat} (h:apart [b,l,u]=true) {es:List LE} {us:List UE} (hn:NmT es us):∀q∈nearT b l u es us++famT es us,hpL (nearT b l u es us++famT es us) q.1=some q.2:=nodup_look (tIn_nd h hn)
theorem lend_tree {es:List LE} {us:List UE} (hn:NmT es us) (hok:∀e∈es,e.ok):lendV (hpL (tIn es us)) (.d (.ptr FK 0)) (roV (es.map LE.val) (us.map Prod.snd)):=
 .inr ⟨FK,_,_,_,rfl,rfl,close_tree (look_near rfl hn (FK1,_) (by simp)) (look_near rfl hn (FK2,_) (by simp)) (fun q hq=>look_near rfl hn q (List.mem_append_right _ hq)) hok rfl,rfl⟩
theorem call_tree {P:Program} {f:FuncId} {args args0:List PV} {h:Hp} {K:OpK} {X:Value→Hp→Prop} {res:PV} {es es':List LE} {us us':List UE} (hs:CallS P f args0 [] (tIn es us) res (tOut es' us')) (F:Nat→Nat)
  (hn:NmT es us) (hn':NmT es' us') (hinj:∀a∈[FK,FK1,FK2,NK1,NK2]++(namesT es us++namesT es' us'),∀b∈[FK,FK1,FK2,NK1,NK2]++(namesT es us++namesT es' us'),F a=F b→a=b)
  (hao:∀x∈args0,pon (· = FK) x) (hro:pon (fun _=>False) res) (ha:args0.map (pmp F)=args) (hh:∀q∈nearT (F FK) (F FK1) (F FK2) (es.map (LE.mv F)) (us.map (umv F))++famT (es.map (LE.mv F)) (us.map (umv F)),h q.1=some q.2)
  (hk:K res (deltaOf (nearT (F FK) (F FK1) (F FK2) (es.map (LE.mv F)) (us.map (umv F))++famT (es.map (LE.mv F)) (us.map (umv F))) (nearT (F FK) (F NK1) (F NK2) (es'.map (LE.mv F)) (us'.map (umv F))++famT (es'.map (LE.mv F)) (us'.map (umv F)))) (nearT (F FK) (F FK1) (F FK2) (es.map (LE.mv F)) (us.map (umv F))++famT (es.map (LE.mv F)) (us.map (umv F)))):CallP P f args h K X:=by
 have e1:(tIn es us).map (qmp F)=nearT (F FK) (F FK1) (F FK2) (es.map (LE.mv F)) (us.map (umv F))++famT (es.map (LE.mv F)) (us.map (umv F)):=by rw[List.map_append,near_mv,fam_mv]
 have e2:(tOut es' us').map (qmp F)=nearT (F FK) (F NK1) (F NK2) (es'.map (LE.mv F)) (us'.map (umv F))++famT (es'.map (LE.mv F)) (us'.map (umv F)):=by rw[List.map_append,near_mv,fam_mv]
 have hks:∀k,k∈[FK,FK1,FK2]++namesT es us++([FK,NK1,NK2]++namesT es' us')↔k∈([]++(tIn es us++tOut es' us')).map Prod.fst:=fun k=>by
  rw[List.nil_append,List.map_append,tIn_keys,tIn_keys]
 have hsub:∀k,k∈[FK,FK1,FK2]++namesT es us++([FK,NK1,NK2]++namesT es' us')→k∈[FK,FK1,FK2,NK1,NK2]++(namesT es us++namesT es' us'):=fun k hk=>by
  simp only[List.mem_append,List.mem_cons,List.not_mem_nil,or_false] at hk ⊢
  rcases hk with ((h | h | h) | h | h) | ((h | h | h) | h | h)<;>simp[h]
 refine call_mp F hs (tIn_nd rfl hn) (tIn_nd rfl hn') _ hks (fun a ha b hb e=>hinj a (hsub a ha) b (hsub b hb) e) (fun q hq=>?_) (fun x hx=>pon_imp (fun k (hk:k=FK)=>by rw[hk];simp) (hao x hx)) (pon_imp (fun k (hk:False)=>hk.elim) hro) ha (fun q hq=>?_) ?_
 ·have A:∀k∈namesT es us,k∈[FK,FK1,FK2]++namesT es us++([FK,NK1,NK2]++namesT es' us'):=fun k hk=>List.mem_append_left _ (List.mem_append_right _ hk)
  have B:∀k∈namesT es' us',k∈[FK,FK1,FK2]++namesT es us++([FK,NK1,NK2]++namesT es' us'):=fun k hk=>List.mem_append_right _ (List.mem_append_right _ hk)
  rw[List.nil_append] at hq
  rcases List.mem_append.1 hq with hq | hq<;>rcases List.mem_append.1 hq with hq | hq
  ·simp only[List.mem_cons,List.not_mem_nil,or_false] at hq
   rcases hq with rfl | rfl | rfl
   ·intro x hx
    simp only[List.mem_cons,List.not_mem_nil,or_false] at hx
    rcases hx with rfl | rfl
    ·show FK1∈_;simp
    ·show FK2∈_;simp
   ·exact fun r hr x hx=>on_imp A (row_on es us r hr x hx)
   ·exact fun r hr x hx=>on_imp A (urow_on es us r hr x hx)
  ·exact hon_imp (fun k (hk:False)=>hk.elim) (famT_no es us q hq)
  ·simp only[List.mem_cons,List.not_mem_nil,or_false] at hq
   rcases hq with rfl | rfl | rfl
   ·intro x hx
    simp only[List.mem_cons,List.not_mem_nil,or_false] at hx
    rcases hx with rfl | rfl
    ·show NK1∈_;simp
    ·show NK2∈_;simp
   ·exact fun r hr x hx=>on_imp B (row_on es' us' r hr x hx)
   ·exact fun r hr x hx=>on_imp B (urow_on es' us' r hr x hx)
  ·exact hon_imp (fun k (hk:False)=>hk.elim) (famT_no es' us' q hq)
 ·rw[List.nil_append] at hq
  have:=hh (qmp F q) (by rw[← e1];exact List.mem_map.2 ⟨q,hq,rfl⟩)
  exact this
 ·rw[e1,e2]
  have hres:pmp F res=res:=by
   cases res with
   | d x=>exact congrArg PV.d (mp_same (p:=fun _=>False) (fun _ h=>h.elim) hro)
   | agg l=>exact congrArg PV.agg (by
     conv=>rhs;rw[← List.map_id l]
     exact List.map_congr_left fun x hx=>mp_same (p:=fun _=>False) (fun _ h=>h.elim) (hro x hx))
   | tup l=>rfl
   | any=>rfl
  rw[hres]
  exact hk
theorem app_add:∀{out:Rf} {h:Hp} {k:Nat},(out.map Prod.fst).Nodup→Dl.app h (out.map fun p=>(p.1,some p.2)) k=match hpL out k with | some b=>some b | none=>h k
 | [],h,k,_=>rfl
 | (q,b)::out,h,k,hn=>by
  rw[List.map_cons] at hn
  obtain⟨h1,h2⟩:=List.nodup_cons.1 hn
  show Dl.app (upd h q (some b)) (out.map fun p=>(p.1,some p.2)) k=match (bif Nat.beq k q then some b else hpL out k) with | some b=>some b | none=>h k
  rw[app_add h2]
  by_cases e:k=q
  ·subst e
   rw[Nat.beq_refl,hpL_none h1,upd_same];rfl
  ·rw[nbeq e,upd_ne _ _ e];rfl
theorem app_del:∀{r:Rf} {h:Hp} {k:Nat},k∉r.map Prod.fst→Dl.app h (r.map fun p=>(p.1,none)) k=h k
 | [],h,k,_=>rfl
 | (q,b)::r,h,k,hn=>by
  show Dl.app (upd h q none) (r.map fun p=>(p.1,none)) k=h k
  rw[app_del fun hm=>hn (List.mem_cons_of_mem _ hm),upd_ne _ _ fun e=>hn (by rw[e];exact List.mem_cons_self)]
theorem app_app:∀{a b:Dl} {h:Hp},Dl.app h (a++b)=Dl.app (Dl.app h a) b
 | [],b,h=>rfl
 | (k,x)::a,b,h=>by
  show Dl.app (upd h k x) (a++b)=Dl.app (Dl.app (upd h k x) a) b
  rw[app_app]
theorem delta_out {rf out:Rf} {h:Hp} (hn:(out.map Prod.fst).Nodup) {q:Nat×HB} (hq:q∈out):Dl.app h (deltaOf rf out) q.1=some q.2:=by
 unfold deltaOf
 rw[app_app,app_add hn,nodup_look hn q hq]
theorem delta_else {rf out:Rf} {h:Hp} (hn:(out.map Prod.fst).Nodup) {k:Nat} (h1:k∉rf.map Prod.fst) (h2:k∉out.map Prod.fst):Dl.app h (deltaOf rf out) k=h k:=by
 unfold deltaOf
 rw[app_app,app_add hn,hpL_none h2,app_del h1]
end Tr
end Go.Proofs.Ythejollbijglcaa.Pm
end
section
namespace Go.Proofs.Ythejollbijglcaa.Pm
open Go.RowKit K
set_option maxRecDepth 100000
set_option maxRecDepth 100000
open Tr
namespace Tr
theorem call_ro {P:Program} {f:FuncId} {args args0:List PV} {h:Hp} {K:OpK} {X:Value→Hp→Prop} {res:PV} {es:List LE} {us:List UE} (hs:CallS P f args0 (tIn es us) [] res []) (F:Nat→Nat)
  (hn:NmT es us) (hinj:∀a∈[FK,FK1,FK2]++namesT es us,∀b∈[FK,FK1,FK2]++namesT es us,F a=F b→a=b)
  (hao:∀x∈args0,pon (· = FK) x) (hro:pon (fun _=>False) res) (ha:args0.map (pmp F)=args) (hh:∀q∈nearT (F FK) (F FK1) (F FK2) (es.map (LE.mv F)) (us.map (umv F))++famT (es.map (LE.mv F)) (us.map (umv F)),h q.1=some q.2)
  (hk:∀rf,K res [] rf):CallP P f args h K X:=by
 have e1:(tIn es us).map (qmp F)=nearT (F FK) (F FK1) (F FK2) (es.map (LE.mv F)) (us.map (umv F))++famT (es.map (LE.mv F)) (us.map (umv F)):=by rw[List.map_append,near_mv,fam_mv]
 have hks:∀k,k∈[FK,FK1,FK2]++namesT es us↔k∈(tIn es us++([]++[])).map Prod.fst:=fun k=>by
  rw[List.append_nil,List.append_nil,tIn_keys]
 refine call_mp F hs (by rw[List.append_nil];exact tIn_nd rfl hn) (by rw[List.append_nil];exact tIn_nd rfl hn) _ hks hinj (fun q hq=>?_) (fun x hx=>pon_imp (fun k (hk:k=FK)=>by rw[hk];simp) (hao x hx)) (pon_imp (fun k (hk:False)=>hk.elim) hro) ha (fun q hq=>?_) ?_
 ·have A:∀k∈namesT es us,k∈[FK,FK1,FK2]++namesT es us:=fun k hk=>List.mem_append_right _ hk
  rw[List.append_nil,List.append_nil] at hq
  rcases List.mem_append.1 hq with hq | hq
  ·simp only[List.mem_cons,List.not_mem_nil,or_false] at hq
   rcases hq with rfl | rfl | rfl
   ·intro x hx
    simp only[List.mem_cons,List.not_mem_nil,or_false] at hx
    rcases hx with rfl | rfl
    ·show FK1∈_;simp
    ·show FK2∈_;simp
   ·exact fun r hr x hx=>on_imp A (row_on es us r hr x hx)
   ·exact fun r hr x hx=>on_imp A (urow_on es us r hr x hx)
  ·exact hon_imp (fun k (hk:False)=>hk.elim) (famT_no es us q hq)
 ·rw[List.append_nil] at hq
  have:=hh (qmp F q) (by rw[← e1];exact List.mem_map.2 ⟨q,hq,rfl⟩)
  exact this
 ·have hres:pmp F res=res:=by
   cases res with
   | d x=>exact congrArg PV.d (mp_same (p:=fun _=>False) (fun _ h=>h.elim) hro)
   | agg l=>exact congrArg PV.agg (by
     conv=>rhs;rw[← List.map_id l]
     exact List.map_congr_left fun x hx=>mp_same (p:=fun _=>False) (fun _ h=>h.elim) (hro x hx))
   | tup l=>rfl
   | any=>rfl
  rw[hres]
  exact hk _
def nd (l:List Nat):Bool:=match l with
 | []=>true
 | k::l=>(l.all fun x=>!Nat.beq x k)&&nd l
theorem nd_out:∀{l:List Nat},nd l=true→l.Nodup
 | [],_=>List.Pairwise.nil
 | k::l,h=>by
  unfold nd at h
  rw[Bool.and_eq_true,List.all_eq_true] at h
  refine List.nodup_cons.2 ⟨fun hm=>?_,nd_out h.2⟩
  have:=h.1 k hm
  rw[Nat.beq_refl] at this;cases this
theorem nd_inj {F:Nat→Nat}:∀{l:List Nat},nd (l.map F)=true→∀a∈l,∀b∈l,F a=F b→a=b
 | x::l,h,a,ha,b,hb,e=>by
  rw[List.map_cons] at h
  unfold nd at h
  simp only[Bool.and_eq_true,List.all_eq_true] at h
  have hx:∀y∈l,F y≠F x:=fun y hy he=>by
   have:=h.1 (F y) (List.mem_map.2 ⟨y,hy,rfl⟩)
   rw[he,Nat.beq_refl] at this;cases this
  rcases List.mem_cons.1 ha with ha' | ha'<;>rcases List.mem_cons.1 hb with hb' | hb'
  ·rw[ha',hb']
  ·exact absurd (by rw[← ha'];exact e.symm) (hx b hb')
  ·exact absurd (by rw[← hb'];exact e) (hx a ha')
  ·exact nd_inj h.2 a ha' b hb' e
theorem call_cs {P:Program} {f:FuncId} {args args0:List PV} {h:Hp} {K:OpK} {X:Value→Hp→Prop} {res:PV} {rf out:Rf} (ls:List (Nat×Nat)) (hs:CallS P f args0 [] rf res out)
  (h1:nd (rf.map Prod.fst)=true) (h2:nd (out.map Prod.fst)=true) (h3:nd ((ls.map Prod.fst).map (Fl ls))=true) (h4:((rf++out).all fun q=>kin q.1 (ls.map Prod.fst))=true) (h5:((ls.map Prod.fst).all fun k=>rfHas k (rf++out))=true)
  (hno:∀q∈rf++out,hon (fun _=>False) q.2) (hao:∀x∈args0,pon (·∈ls.map Prod.fst) x) (hro:pon (·∈ls.map Prod.fst) res) (ha:args0.map (pmp (Fl ls))=args) (hh:∀q∈rf,h (Fl ls q.1)=some q.2)
  (hk:K (pmp (Fl ls) res) (deltaOf (rf.map fun q=>(Fl ls q.1,q.2)) (out.map fun q=>(Fl ls q.1,q.2))) (rf.map fun q=>(Fl ls q.1,q.2))):CallP P f args h K X:=by
 have hq:∀r:Rf,(∀q∈r,hon (fun _=>False) q.2)→r.map (qmp (Fl ls))=r.map fun q=>(Fl ls q.1,q.2):=fun r hr=>List.map_congr_left fun q hq=>by
  show (Fl ls q.1,hmp (Fl ls) q.2)=_
  rw[hmp_same (p:=fun _=>False) (fun _ h=>h.elim) (hr q hq)]
 have hall:=List.all_eq_true.1 h4
 have hrf:=hq rf fun q hq=>hno q (List.mem_append_left _ hq)
 have hout:=hq out fun q hq=>hno q (List.mem_append_right _ hq)
 refine call_mp (Fl ls) hs (nd_out h1) (nd_out h2) (ls.map Prod.fst) (fun k=>⟨fun hk=>?_,fun hk=>?_⟩) (nd_inj h3) (fun q hq=>hon_imp (fun k (hk:False)=>hk.elim) (hno q hq)) hao hro ha (fun q hq=>?_) ?_
 ·have:=List.all_eq_true.1 h5 k hk
  have rh:∀{r:Rf},rfHas k r=true→k∈r.map Prod.fst:=fun {r}=>by
   induction r with
   | nil=>intro h;cases h
   | cons p r ih=>
    obtain⟨a,b⟩:=p
    intro h
    unfold rfHas at h
    cases hb:Nat.beq a k with
    | true=>rw[Nat.eq_of_beq_eq_true hb];exact List.mem_cons_self
    | false=>rw[hb] at h;exact List.mem_cons_of_mem _ (ih h)
  exact rh this
 ·obtain⟨q,hq,rfl⟩:=List.mem_map.1 hk
  exact kin_iff.1 (hall q hq)
 ·have:=hh q hq
  rwa [hmp_same (p:=fun _=>False) (fun _ h=>h.elim) (hno q (List.mem_append_left _ hq))]
 ·show K _ (deltaOf (rf.map (qmp (Fl ls))) (out.map (qmp (Fl ls)))) (rf.map (qmp (Fl ls)))
  rw[hrf,hout]
  exact hk
theorem call_csr {P:Program} {f:FuncId} {args args0:List PV} {h:Hp} {K:OpK} {X:Value→Hp→Prop} {res:PV} {rd rf out:Rf} (ls:List (Nat×Nat)) (hs:CallS P f args0 rd rf res out)
  (h1:nd ((rd++rf).map Prod.fst)=true) (h2:nd ((rd++out).map Prod.fst)=true) (h3:nd ((ls.map Prod.fst).map (Fl ls))=true) (h4:((rd++(rf++out)).all fun q=>kin q.1 (ls.map Prod.fst))=true) (h5:((ls.map Prod.fst).all fun k=>rfHas k (rd++(rf++out)))=true)
  (hno:∀q∈rd++(rf++out),hon (fun _=>False) q.2) (hao:∀x∈args0,pon (·∈ls.map Prod.fst) x) (hro:pon (·∈ls.map Prod.fst) res) (ha:args0.map (pmp (Fl ls))=args) (hh:∀q∈rd++rf,h (Fl ls q.1)=some q.2)
  (hk:K (pmp (Fl ls) res) (deltaOf (rf.map fun q=>(Fl ls q.1,q.2)) (out.map fun q=>(Fl ls q.1,q.2))) ((rd.map fun q=>(Fl ls q.1,q.2))++rf.map fun q=>(Fl ls q.1,q.2))):CallP P f args h K X:=by
 have hq:∀r:Rf,(∀q∈r,hon (fun _=>False) q.2)→r.map (qmp (Fl ls))=r.map fun q=>(Fl ls q.1,q.2):=fun r hr=>List.map_congr_left fun q hq=>by
  show (Fl ls q.1,hmp (Fl ls) q.2)=_
  rw[hmp_same (p:=fun _=>False) (fun _ h=>h.elim) (hr q hq)]
 have hall:=List.all_eq_true.1 h4
 have hrd:=hq rd fun q hq=>hno q (List.mem_append_left _ hq)
 have hrf:=hq rf fun q hq=>hno q (List.mem_append_right _ (List.mem_append_left _ hq))
 have hout:=hq out fun q hq=>hno q (List.mem_append_right _ (List.mem_append_right _ hq))
 refine call_mp (Fl ls) hs (nd_out h1) (nd_out h2) (ls.map Prod.fst) (fun k=>⟨fun hk=>?_,fun hk=>?_⟩) (nd_inj h3) (fun q hq=>hon_imp (fun k (hk:False)=>hk.elim) (hno q hq)) hao hro ha (fun q hq=>?_) ?_
 ·have:=List.all_eq_true.1 h5 k hk
  have rh:∀{r:Rf},rfHas k r=true→k∈r.map Prod.fst:=fun {r}=>by
   induction r with
   | nil=>intro h;cases h
   | cons p r ih=>
    obtain⟨a,b⟩:=p
    intro h
    unfold rfHas at h
    cases hb:Nat.beq a k with
    | true=>rw[Nat.eq_of_beq_eq_true hb];exact List.mem_cons_self
    | false=>rw[hb] at h;exact List.mem_cons_of_mem _ (ih h)
  exact rh this
 ·obtain⟨q,hq,rfl⟩:=List.mem_map.1 hk
  exact kin_iff.1 (hall q hq)
 ·have:=hh q hq
  have hm:q∈rd++(rf++out):=by
   rcases List.mem_append.1 hq with h | h
   ·exact List.mem_append_left _ h
   ·exact List.mem_append_right _ (List.mem_append_left _ h)
  rwa [hmp_same (p:=fun _=>False) (fun _ h=>h.elim) (hno q hm)]
 ·show K _ (deltaOf (rf.map (qmp (Fl ls))) (out.map (qmp (Fl ls)))) (rd.map (qmp (Fl ls))++rf.map (qmp (Fl ls)))
  rw[hrf,hout,hrd]
  exact hk
theorem leaf_eq {rows:List (List D)} {a:List PairD} (h:rows=(a.map PairD.c).map (List.map D.c)):some (HB.darr 38 2 rows)=some (leafH a):=by rw[h];rfl
def Has (h:Hp) (b l u:Nat) (es:List LE) (us:List UE):Prop:=∀q∈nearT b l u es us++famT es us,h q.1=some q.2
theorem map_nd_inj {F:Nat→Nat} {l:List Nat} (h:(l.map F).Nodup):∀a∈l,∀b∈l,F a=F b→a=b:=by
 induction l with
 | nil=>intro a ha;cases ha
 | cons x l ih=>
  rw[List.map_cons] at h
  obtain⟨h1,h2⟩:=List.nodup_cons.1 h
  intro a ha b hb e
  rcases List.mem_cons.1 ha with ha' | ha'<;>rcases List.mem_cons.1 hb with hb' | hb'
  ·rw[ha',hb']
  ·exact absurd (List.mem_map.2 ⟨b,hb',by rw[← e,ha']⟩) h1
  ·exact absurd (List.mem_map.2 ⟨a,ha',by rw[e,hb']⟩) h1
  ·exact ih h2 a ha' b hb' e
theorem names_mv (F:Nat→Nat) (es:List LE) (us:List UE):namesT (es.map (LE.mv F)) (us.map (umv F))=(namesT es us).map F:=by
 show (es.map (LE.mv F)).map LE.k++(us.map (umv F)).map Prod.fst=_
 rw[List.map_append,List.map_map,List.map_map,List.map_map,List.map_map];rfl
theorem keys_mv (F:Nat→Nat) (b l u:Nat) (es:List LE) (us:List UE):((nearT b l u es us++famT es us).map Prod.fst).map F=(nearT (F b) (F l) (F u) (es.map (LE.mv F)) (us.map (umv F))++famT (es.map (LE.mv F)) (us.map (umv F))).map Prod.fst:=by
 rw[tIn_keys,tIn_keys,names_mv,List.map_append];rfl
theorem tree_mv (F:Nat→Nat) (b l u:Nat) (es:List LE) (us:List UE):(nearT b l u es us++famT es us).map (qmp F)=nearT (F b) (F l) (F u) (es.map (LE.mv F)) (us.map (umv F))++famT (es.map (LE.mv F)) (us.map (umv F)):=by rw[List.map_append,near_mv,fam_mv]
theorem tree_on {b l u:Nat} {es:List LE} {us:List UE} {ks:List Nat} (hks:∀k∈[b,l,u]++namesT es us,k∈ks):∀q∈nearT b l u es us++famT es us,q.1∈ks∧hon (·∈ks) q.2:=fun q hq=>by
 refine⟨hks _ (by rw[← tIn_keys];exact List.mem_map.2 ⟨q,hq,rfl⟩),?_⟩
 have A:∀k∈namesT es us,k∈ks:=fun k hk=>hks k (List.mem_append_right _ hk)
 rcases List.mem_append.1 hq with hq | hq
 ·simp only[List.mem_cons,List.not_mem_nil,or_false] at hq
  rcases hq with rfl | rfl | rfl
  ·intro x hx
   simp only[List.mem_cons,List.not_mem_nil,or_false] at hx
   rcases hx with rfl | rfl
   ·exact hks l (by simp)
   ·exact hks u (by simp)
  ·exact fun r hr x hx=>on_imp A (row_on es us r hr x hx)
  ·exact fun r hr x hx=>on_imp A (urow_on es us r hr x hx)
 ·exact hon_imp (fun k (hk:False)=>hk.elim) (famT_no es us q hq)
theorem wk_has {fk ks:List Nat} (F:Nat→Nat) {e:Env} {h:Hp} {le:List (Nat×PV)} {near:Rf} {b l u:Nat} {es:List LE} {us:List UE} (hh:Has h (F b) (F l) (F u) (es.map (LE.mv F)) (us.map (umv F)))
  (hfk:∀k∈fk,k∈ks∧F k=k) (hks:∀k∈[b,l,u]++namesT es us,k∈ks) (hnd:((near.map Prod.fst).map F++([F b,F l,F u]++(namesT es us).map F)).Nodup)
  (hne:∀q∈near,q.1∈ks∧∃b',h (F q.1)=some b'∧HLe (fnL (mR F ks)) ks q.2 b') (he:PLes (fnL (mR F ks)) ks e le):Wk fk e h le (near++(nearT b l u es us++famT es us)) ks:=by
 refine wk_mp F hfk (map_nd_inj ?_) (fun q hq=>?_) he
 ·rw[List.map_append,tIn_keys,List.map_append,List.map_append]
  exact hnd
 ·rcases List.mem_append.1 hq with hq | hq
  ·exact hne q hq
  ·obtain⟨h1,h2⟩:=tree_on hks q hq
   exact⟨h1,hmp F q.2,hh (qmp F q) (by rw[← tree_mv];exact List.mem_map.2 ⟨q,hq,rfl⟩),hle_on h2⟩
theorem has_in {es:List LE} {us:List UE} (hn:NmT es us) {rf:Rf} (e:rf=tIn es us):Has (hpL rf) FK FK1 FK2 es us:=by
 subst e
 exact look_near rfl hn
theorem ret_has {fk:List Nat} (ks:List Nat) (F:Nat→Nat) {h:Hp} {res v:PV} {es:List LE} {us:List UE} (hb:F FK=FK) (hh:Has h FK (F NK1) (F NK2) (es.map (LE.mv F)) (us.map (umv F))) (hfk:∀k∈fk,k∈ks∧F k=k) (hks:∀k∈[FK,NK1,NK2]++namesT es us,k∈ks)
  (hnd:([FK,F NK1,F NK2]++(namesT es us).map F).Nodup) (hr:PLe (fnL (mR F ks)) ks res v):RetS fk h res (tOut es us) v:=by
 obtain⟨f,hi,hf,he,hl⟩:=wk_has (e:=fun _=>v) (le:=[(0,res)]) (near:=[]) F (b:=FK) (l:=NK1) (u:=NK2) (fk:=fk) (ks:=ks) (by rw[hb];exact hh) hfk hks (by rw[hb];exact hnd) (fun q hq=>(by cases hq)) ⟨hr,trivial⟩
 exact RetS.mk f ks hi hf he.1 hl
theorem has_of {h:Hp} {b l u:Nat} {es:List LE} {us:List UE} (h1:h b=some (.box 61 [.arr l 28 1 0 es.length,.arr u 54 1 0 us.length])) (h2:h l=some (.darr 28 1 (es.map LE.row))) (h3:h u=some (.darr 54 1 (us.map urow)))
  (h4:∀e∈es,h e.k=some (leafH e.a)) (h5:∀p∈us,h p.1=some (lvlH p.2)):Has h b l u es us:=fun q hq=>by
 rcases List.mem_append.1 hq with hq | hq
 ·simp only[List.mem_cons,List.not_mem_nil,or_false] at hq
  rcases hq with rfl | rfl | rfl
  ·exact h1
  ·exact h2
  ·exact h3
 ·rcases List.mem_append.1 hq with hq | hq
  ·obtain⟨e,he,rfl⟩:=List.mem_map.1 hq
   exact h4 e he
  ·obtain⟨e,he,rfl⟩:=List.mem_map.1 hq
   exact h5 e he
abbrev ksF (ls:List (Nat×Nat)):List Nat:=[FK,FK1,FK2]++(ls.map Prod.fst++nT)
theorem wk_in (ls:List (Nat×Nat)) (hls:(ls.all fun p=>farK p.1)=true) (f0:Fl ls FK=FK) (f1:Fl ls FK1=FK1) (f2:Fl ls FK2=FK2) {e:Env} {le:List (Nat×PV)} {es es2:List LE} {us us2:List UE} (hn:NmT es us)
  (hes:es2.map (LE.mv (Fl ls))=es) (hus:us2.map (umv (Fl ls))=us) (hnm:∀k∈namesT es2 us2,k∈ls.map Prod.fst++nT) (lh:Rf) (hlh:∀q∈lh,q∈tIn es2 us2) (he:PLes (fnL (mR (Fl ls) (ksF ls))) (ksF ls) e le) {h:Hp} (hh:h=hpL (tIn es us)) :
  Wk ([FK,FK1,FK2]++namesT es us) e h le lh (ksF ls):=by
 refine wk_sub (wk_has (near:=[]) (Fl ls) (b:=FK) (l:=FK1) (u:=FK2) (es:=es2) (us:=us2) (by rw[f0,f1,f2,hes,hus,hh];exact has_in hn rfl) (fun k hk=>?_) (fun k hk=>?_) ?_ (fun q hq=>(by cases hq)) he) hlh
 ·rcases List.mem_append.1 hk with hk | hk
  ·refine⟨List.mem_append_left _ hk,?_⟩
   simp only[List.mem_cons,List.not_mem_nil,or_false] at hk
   rcases hk with rfl | rfl | rfl
   ·exact f0
   ·exact f1
   ·exact f2
  ·have:=hn.inn k hk
   exact⟨List.mem_append_right _ (List.mem_append_right _ this),Fl_out hls this⟩
 ·rcases List.mem_append.1 hk with hk | hk
  ·exact List.mem_append_left _ hk
  ·exact List.mem_append_right _ (hnm k hk)
 ·show ([Fl ls FK,Fl ls FK1,Fl ls FK2]++(namesT es2 us2).map (Fl ls)).Nodup
  rw[f0,f1,f2,← names_mv,hes,hus]
  have:=tIn_nd (b:=FK) (l:=FK1) (u:=FK2) rfl hn
  rwa [tIn_keys] at this
theorem mp_fix {ls:List (Nat×Nat)} (hls:(ls.all fun p=>farK p.1)=true) {es:List LE} (h:∀e∈es,e.k∈nT):es.map (LE.mv (Fl ls))=es:=mv_same fun e he=>Fl_out hls (h e he)
theorem ump_fix {ls:List (Nat×Nat)} (hls:(ls.all fun p=>farK p.1)=true) {us:List UE} (h:∀p∈us,p.1∈nT):us.map (umv (Fl ls))=us:=umv_same fun e he=>Fl_out hls (h e he)
theorem es_in {es:List LE} {us:List UE} (h:NmT es us):∀e∈es,e.k∈nT:=fun e he=>h.inn _ (List.mem_append_left _ (List.mem_map.2 ⟨e,he,rfl⟩))
theorem us_in {es:List LE} {us:List UE} (h:NmT es us):∀p∈us,p.1∈nT:=fun e he=>h.inn _ (List.mem_append_right _ (List.mem_map.2 ⟨e,he,rfl⟩))
theorem Fl_no {ls:List (Nat×Nat)} {k:Nat} (h:∀p∈ls,p.1≠k):Fl ls k=k:=by
 have:fnL ls k=none:=by
  induction ls with
  | nil=>rfl
  | cons p ls ih=>
   obtain⟨q,c⟩:=p
   rw[fnL_skip (fun e=>h (q,c) List.mem_cons_self e.symm)]
   exact ih fun p hp=>h p (List.mem_cons_of_mem _ hp)
 unfold Fl
 rw[this];rfl
theorem nd_perm {M lits names:List Nat} (hp:M.Perm (lits++names)) (h:nd lits=true) (hf:lits.all farK=true) (hn:names.Nodup) (hin:∀k∈names,k∈nT):M.Nodup:=by
 refine hp.nodup_iff.2 (List.nodup_append.2 ⟨nd_out h,hn,fun x hx y hy e=>?_⟩)
 subst e
 exact farK_out (List.all_eq_true.1 hf x hx) (hin x hy)
theorem nm_sub {es es':List LE} {us us':List UE} (h:NmT es us) (h1:es'.Sublist es) (h2:us'.Sublist us):NmT es' us':=
 ⟨h.nd.sublist ((h1.map _).append (h2.map _)),fun k hk=>h.inn k (((h1.map _).append (h2.map _)).subset hk)⟩
theorem in_new {k:Nat} (h:k<12):k+3000∈nT:=List.mem_append_right _ (List.mem_append_right _ (List.mem_append_left _ (List.mem_map.2 ⟨k,List.mem_range.2 h,rfl⟩)))
theorem lvl_eq {rows:List (List D)} {v:List Nat} (h:rows=(v.map natC).map (List.map D.c)):some (HB.darr 3 1 rows)=some (lvlH v):=by rw[h];rfl
theorem lvl_rep (v:List Nat) (at_:Nat) {n:Nat} {m:Int} (hm:m=(n:Int)):((v.map natC).map (List.map D.c)).take at_++[[D.c (.v (.int .i64 2))],[D.c (.v (.int .i64 m))]]++((v.map natC).map (List.map D.c)).drop (at_+1)=((v.take at_++[2,n]++v.drop (at_+1)).map natC).map (List.map D.c):=by
 subst hm
 simp only[List.map_append,List.map_take,List.map_drop,List.map_cons,List.map_nil]
 rfl
theorem nm_ins {es:List LE} {A B:List UE} {x:Nat} (w:List Nat) (h:NmT es (A++B)) (hx:x∈nT) (hf:x∉namesT es (A++B)):NmT es (A++(x,w)::B):=by
 have hp:(namesT es (A++(x,w)::B)).Perm (x::namesT es (A++B)):=List.perm_iff_count.2 fun a=>by
  simp only[namesT,List.count_append,List.map_append,List.map_cons,List.count_cons]
  omega
 refine⟨hp.nodup_iff.2 (List.nodup_cons.2 ⟨hf,h.nd⟩),fun k hk=>?_⟩
 rcases List.mem_cons.1 (hp.subset hk) with rfl | hk
 ·exact hx
 ·exact h.inn k hk
theorem nm_val {es:List LE} {A B:List UE} {x:Nat} {w:List Nat} (w':List Nat) (h:NmT es (A++(x,w)::B)):NmT es (A++(x,w')::B):=by
 have e:namesT es (A++(x,w')::B)=namesT es (A++(x,w)::B):=by simp[namesT]
 exact⟨by show (namesT es (A++(x,w')::B)).Nodup;rw[e];exact h.nd,fun k hk=>h.inn k (by rw[show es.map LE.k++(A++(x,w)::B).map Prod.fst=namesT es (A++(x,w)::B) from rfl,← e];exact hk)⟩
theorem nodup_map {F:Nat→Nat}:∀{l:List Nat},l.Nodup→(∀a∈l,∀b∈l,F a=F b→a=b)→(l.map F).Nodup
 | [],_,_=>List.Pairwise.nil
 | x::l,h,hi=>by
  obtain⟨h1,h2⟩:=List.nodup_cons.1 h
  rw[List.map_cons]
  refine List.nodup_cons.2 ⟨fun hm=>?_,nodup_map h2 fun a ha b hb=>hi a (List.mem_cons_of_mem _ ha) b (List.mem_cons_of_mem _ hb)⟩
  obtain⟨y,hy,e⟩:=List.mem_map.1 hm
  have:=hi y (List.mem_cons_of_mem _ hy) x List.mem_cons_self e
  exact h1 (by rw[← this];exact hy)
theorem set_mid2 {α:Type} {A B:List α} {x:α} {i:Nat} (hi:i=A.length) (y:α):(A++x::B).set i y=A++y::B:=by
 subst hi
 rw[List.set_append_right _ _ (Nat.le_refl _),Nat.sub_self];rfl
theorem get_mid2 {α:Type} {A B:List α} {x:α} {i:Nat} (hi:i=A.length):(A++x::B)[i]? = some x:=by
 subst hi
 rw[List.getElem?_append_right (Nat.le_refl _),Nat.sub_self];rfl
theorem get_mid3 {α:Type} {A B:List α} {x y:α} {i:Nat} (hi:i=A.length+1):(A++x::y::B)[i]? = some y:=by
 subst hi
 rw[List.getElem?_append_right (by omega),show A.length+1 - A.length=1 by omega];rfl
theorem set_mid3 {α:Type} {A B:List α} {x y:α} {i:Nat} (hi:i=A.length+1) (z:α):(A++x::y::B).set i z=A++x::z::B:=by
 subst hi
 rw[List.set_append_right _ _ (by omega),show A.length+1 - A.length=1 by omega];rfl
end Tr
theorem s_nodeO {es:List LE} {us:List UE} (hn:NmT es us) (hok:∀e∈es,e.ok) (j:Nat) (u:List Nat) (hu:(us.map Prod.snd)[j]? = some u) (kid:Nat) (hk:kid<u.sum) (hk2:kid≤100000) (hul:u.length≤100000) :
  CallS Try.prog 49 [.d (.ptr FK 0),pInt .i64 j,pInt .i64 kid] (tIn es us) [] (pInt .i64 (nodeF u kid)) []:=by
 obtain⟨hj,e⟩:=List.getElem?_eq_some_iff.1 hu
 have:=p_node (es.map LE.val) (us.map Prod.snd) j hj kid (by rw[e];exact hk) hk2 (by rw[e];exact hul)
 rw[e] at this
 exact lend this (plainR_int _ _) ⟨lend_tree hn hok,.inl rfl,.inl rfl,trivial⟩
theorem s_leafO {es:List LE} {us:List UE} (hn:NmT es us) (hok:∀e∈es,e.ok) (hv:OkT (es.map LE.val) (us.map Prod.snd)) (ht:lenAt (es.map LE.val) (us.map Prod.snd) (us.map Prod.snd).length=1) (key:List UInt8) (hL:∀e∈es,∀p∈e.val,p.ok) :
  CallS Try.prog 31 [.d (.ptr FK 0),pStr (tx key)] (tIn es us) [] (pInt .i64 (leafF (es.map LE.val) (us.map Prod.snd) key (us.map Prod.snd).length 0)) []:=
 lend (p_leaf _ _ hv ht key fun l hl=>by
  obtain⟨e,he,rfl⟩:=List.mem_map.1 hl
  exact hL e he) (plainR_int _ _) ⟨lend_tree hn hok,.inl rfl,trivial⟩
theorem s_seekO (a:List PairD) (lo n:Nat) (hle:lo+n≤a.length) (ha:Asc ((a.drop lo).take n)) (hn:n≤1000) (key:List UInt8) :
  CallS Try.prog 32 [.d (.arr FK 38 2 lo n),pStr (tx key)] [(FK,leafH a)] [] (.tup [pInt .i64 (posF ((a.drop lo).take n) key),pBool (hitF ((a.drop lo).take n) key)]) []:=by
 refine lend (p_seek ((a.drop lo).take n) ha (by rw[List.length_take];omega) key) (plainR_tup2 (plainR_int _ _) (plainR_bool _)) ⟨.inl ?_,.inl rfl,trivial⟩
 unfold PV.closeH D.closeH
 refine RowsC.mk (a.map PairD.c) (clR_cs _) (Need.mk (by rw[List.length_map];exact hle) ?_)
 show PV.d (.c (.sl 2 (((a.map PairD.c).drop lo).take n)))=lfV ((a.drop lo).take n)
 rw[← List.map_drop,← List.map_take]
end Go.Proofs.Ythejollbijglcaa.Pm
end
