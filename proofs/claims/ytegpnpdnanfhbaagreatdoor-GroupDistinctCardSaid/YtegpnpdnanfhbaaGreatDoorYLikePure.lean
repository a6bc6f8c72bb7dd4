/- patterns: pieces of a text, parts of a pattern, what a pattern stands for: plain -/
namespace Go.Proofs.YtegpnpdnanfhbaaGreatDoor.LikeP
def bt (l:List UInt8) (i lo hi:Nat):Bool:=match l[i]? with
 | some b=>decide (lo≤b.toNat)&&decide (b.toNat≤hi)
 | none=>false
def letterLen (l:List UInt8):Nat:=
 if (bt l 0 194 223&&bt l 1 128 191)=true then 2
 else if ((bt l 0 224 224&&bt l 1 160 191||bt l 0 225 236&&bt l 1 128 191||bt l 0 237 237&&bt l 1 128 159||bt l 0 238 239&&bt l 1 128 191)&&bt l 2 128 191)=true then 3
 else if ((bt l 0 240 240&&bt l 1 144 191||bt l 0 241 243&&bt l 1 128 191||bt l 0 244 244&&bt l 1 128 143)&&bt l 2 128 191&&bt l 3 128 191)=true then 4
 else 1
theorem bt_len {l:List UInt8} {i lo hi:Nat} (h:bt l i lo hi=true):i<l.length:=by
 unfold bt at h
 by_cases hi:i<l.length
 ·exact hi
 ·rw[List.getElem?_eq_none (by omega)] at h;simp at h
theorem letterLen_pos (l:List UInt8):1≤letterLen l:=by
 unfold letterLen;(repeat' split)<;>omega
theorem letterLen_le (l:List UInt8) (h:l≠[]):letterLen l≤l.length:=by
 have h0:1≤l.length:=List.length_pos_iff.2 h
 unfold letterLen
 split
 ·rename_i h1;simp only[Bool.and_eq_true] at h1;have:=bt_len h1.2;omega
 split
 ·rename_i h1;simp only[Bool.and_eq_true] at h1;have:=bt_len h1.2;omega
 split
 ·rename_i h1;simp only[Bool.and_eq_true] at h1;have:=bt_len h1.2;omega
 ·exact h0
def piecesF:Nat→List UInt8→List (List UInt8)
 | 0,_=>[]
 | _+1,[]=>[]
 | n+1,b::l=>(b::l).take (letterLen (b::l))::piecesF n ((b::l).drop (letterLen (b::l)))
def pieces (l:List UInt8):List (List UInt8):=piecesF l.length l
theorem piecesF_more:∀(n:Nat) (l:List UInt8),l.length≤n→piecesF n l=piecesF l.length l
 | 0,l,h=>by rw[show l.length=0 by omega]
 | n+1,[],_=>rfl
 | n+1,b::l,h=>by
  have h1:=letterLen_pos (b::l)
  have h2:((b::l).drop (letterLen (b::l))).length≤l.length:=by rw[List.length_drop,List.length_cons];omega
  show _::piecesF n _=_::piecesF l.length _
  rw[piecesF_more n _ (by rw[List.length_cons] at h;omega),← piecesF_more l.length _ h2]
theorem pieces_nil:pieces []=[]:=rfl
theorem pieces_cons (l:List UInt8) (h:l≠[]):pieces l=l.take (letterLen l)::pieces (l.drop (letterLen l)):=by
 cases l with
 | nil=>exact absurd rfl h
 | cons b l=>
  have h1:=letterLen_pos (b::l)
  have h2:((b::l).drop (letterLen (b::l))).length≤l.length:=by rw[List.length_drop,List.length_cons];omega
  show _::piecesF l.length _=_::piecesF _ _
  rw[piecesF_more l.length _ h2]
theorem pieces_ind {P:List UInt8→Prop} (h0:P []) (h1:∀l,l≠[]→P (l.drop (letterLen l))→P l):∀l,P l:=by
 have key:∀n (l:List UInt8),l.length≤n→P l:=by
  intro n
  induction n with
  | zero=>intro l h;rw[List.length_eq_zero_iff.1 (by omega:l.length=0)];exact h0
  | succ n ih=>
   intro l h
   by_cases hl:l=[]
   ·subst hl;exact h0
   ·refine h1 l hl (ih _ ?_)
    have:=letterLen_pos l
    have:0<l.length:=List.length_pos_iff.2 hl
    rw[List.length_drop];omega
 exact fun l=>key l.length l (Nat.le_refl _)
theorem pieces_length_le:∀l,(pieces l).length≤l.length:=by
 refine pieces_ind (by simp[pieces_nil]) fun l h ih=>?_
 rw[pieces_cons l h,List.length_cons]
 have h1:=letterLen_pos l
 have h3:=letterLen_le l h
 rw[List.length_drop] at ih
 omega
def bs (l:List UInt8):ByteArray:=⟨l.toArray⟩
theorem list_bs (l:List UInt8):(bs l).data.toList=l:=by simp[bs]
theorem size_list (s:ByteArray):s.data.toList.length=s.size:=rfl
def ll (s:ByteArray):Nat:=letterLen s.data.toList
def pcs (s:ByteArray):List ByteArray:=(pieces s.data.toList).map bs
set_option maxRecDepth 10000 in
theorem extract_bs (s:ByteArray) (a b:Nat):s.extract a b=bs ((s.data.toList.drop a).take (b - a)):=by
 apply ByteArray.ext
 apply Array.ext'
 simp[bs,ByteArray.data_extract,Array.toList_extract,List.extract_eq_take_drop]
theorem extract_list (s:ByteArray) (a b:Nat):(s.extract a b).data.toList=(s.data.toList.drop a).take (b - a):=by rw[extract_bs,list_bs]
theorem ll_pos (s:ByteArray):1≤ll s:=letterLen_pos _
theorem ll_le (s:ByteArray) (h:0<s.size):ll s≤s.size:=by
 rw[← size_list];exact letterLen_le _ (fun e=>by rw[← size_list,e] at h;simp at h)
theorem pcs_nil (s:ByteArray) (h:s.size=0):pcs s=[]:=by
 unfold pcs
 rw[List.eq_nil_of_length_eq_zero (l:=s.data.toList) (by rw[size_list];exact h)];rfl
theorem pcs_cons (s:ByteArray) (h:0<s.size):pcs s=s.extract 0 (ll s)::pcs (s.extract (ll s) s.size):=by
 have hne:s.data.toList≠[]:=fun e=>by rw[← size_list,e] at h;simp at h
 have h3:=ll_le s h
 unfold pcs
 rw[pieces_cons _ hne,List.map_cons,extract_bs,extract_list]
 refine congr (congrArg _ ?_) ?_
 ·simp[ll]
 ·rw[List.take_of_length_le (by rw[List.length_drop,size_list];unfold ll;omega)];rfl
theorem pcs_length (s:ByteArray):(pcs s).length≤s.size:=by
 unfold pcs;rw[List.length_map,← size_list];exact pieces_length_le _
abbrev Part:=Int×ByteArray
def backslash:ByteArray:=bs [92]
def percent:ByteArray:=bs [37]
def underscore:ByteArray:=bs [95]
def partsE:Bool→List ByteArray→List Part
 | _,[]=>[]
 | true,p::l=>(0,p)::partsE false l
 | false,p::l=>if p=backslash then partsE true l else if p=percent then (37,ByteArray.empty)::partsE false l else if p=underscore then (95,ByteArray.empty)::partsE false l else (0,p)::partsE false l
def openE:Bool→List ByteArray→Bool
 | e,[]=>e
 | e,p::l=>openE (!e&&decide (p=backslash)) l
theorem openE_append (e:Bool) (a b:List ByteArray):openE e (a++b)=openE (openE e a) b:=by
 induction a generalizing e with
 | nil=>rfl
 | cons p a ih=>exact ih _
theorem partsE_append (e:Bool) (a b:List ByteArray):partsE e (a++b)=partsE e a++partsE (openE e a) b:=by
 induction a generalizing e with
 | nil=>rfl
 | cons p a ih=>
  cases e with
  | true=>show (0,p)::partsE false (a++b)=(0,p)::(partsE false a++partsE (openE false a) b);rw[ih]
  | false=>
   by_cases h:p=backslash
   ·simp only[List.cons_append,partsE,openE,h,if_true,decide_true,Bool.not_false,Bool.and_true];exact ih true
   ·have h':openE false (p::a)=openE false a:=by simp[openE,h]
    rw[h']
    simp only[List.cons_append,partsE,h,if_false]
    split
    ·rw[ih];rfl
    ·split<;>(rw[ih];rfl)
theorem partsE_length (e:Bool) (l:List ByteArray):(partsE e l).length≤l.length:=by
 induction l generalizing e with
 | nil=>cases e<;>exact Nat.le_refl _
 | cons p l ih=>
  cases e with
  | true=>show _+1≤_+1;have:=ih false;omega
  | false=>
   simp only[partsE]
   have h1:=ih true
   have h2:=ih false
   (repeat' split)<;>simp only[List.length_cons]<;>omega
def stands (p:Part) (t:ByteArray):Bool:=decide (p.1=95)||(decide (p.1=0)&&decide (p.2=t))
def glob:List Part→List ByteArray→Prop
 | [],t=>t=[]
 | p::l,t=>if p.1=37 then ∃k,k≤t.length∧glob l (t.drop k) else ∃x r,t=x::r∧stands p x=true∧glob l r
theorem glob_star {p:Part} {l:List Part} {t:List ByteArray} (h:p.1=37):glob (p::l) t↔∃k,k≤t.length∧glob l (t.drop k):=by
 show (if _ then _ else _)↔_;rw[if_pos h]
theorem glob_one {p:Part} {l:List Part} {t:List ByteArray} (h:p.1≠37):glob (p::l) t↔∃x r,t=x::r∧stands p x=true∧glob l r:=by
 show (if _ then _ else _)↔_;rw[if_neg h]
theorem glob_run:∀(a b:List Part),(∀p∈a,p.1≠37)→∀t:List ByteArray,glob (a++b) t→glob b (t.drop a.length)∧a.length≤t.length
 | [],b,_,t,h=>⟨h,Nat.zero_le _⟩
 | p::a,b,h,t,hg=>by
  obtain⟨x,r,rfl,_,h1⟩:=(glob_one (h p (List.mem_cons_self ..))).1 hg
  have:=glob_run a b (fun q hq=>h q (List.mem_cons_of_mem _ hq)) r h1
  exact⟨this.1,by simpa using this.2⟩
def later (l:List Part) (t:List ByteArray) (s f:Nat):Prop:=∃g,f<g∧g≤t.length∧glob (l.drop s) (t.drop g)
structure St (l:List Part) (t:List ByteArray) (i k:Nat) (star:Option Nat) (f:Nat):Prop where
 hi:i≤l.length
 hk:k≤t.length
 hf:f≤k
 hs:∀s,star=some s→s≤i∧1≤s∧i - s=k - f∧∀p∈(l.drop s).take (i - s),p.1≠37
 ok:glob l t↔glob (l.drop i) (t.drop k)∨∃s,star=some s∧later l t s f
theorem St.start (l:List Part) (t:List ByteArray):St l t 0 0 none 0:=
 ⟨Nat.zero_le _,Nat.zero_le _,Nat.le_refl _,(fun s h=>by cases h),(by simp)⟩
theorem drop_cons {α:Type} {l:List α} {i:Nat} (h:i<l.length):l.drop i=l[i]::l.drop (i+1):=List.drop_eq_getElem_cons h
theorem St.any {l:List Part} {t:List ByteArray} {i k f:Nat} {star:Option Nat} (h:St l t i k star f) (hi:i<l.length) (hp:(l[i]).1=37):St l t (i+1) k (some (i+1)) k:=by
 refine⟨by omega,h.hk,Nat.le_refl _,fun s e=>?_,?_⟩
 ·cases e;exact⟨Nat.le_refl _,by omega,by omega,by simp⟩
 ·rw[h.ok,drop_cons hi,glob_star hp]
  have hk:=h.hk
  constructor
  ·rintro (⟨g,hg,h1⟩ | ⟨s,rfl,g,hg1,hg2,h1⟩)
   ·rw[List.length_drop] at hg
    rw[List.drop_drop] at h1
    rcases Nat.eq_zero_or_pos g with rfl | hpos
    ·exact .inl h1
    ·exact .inr ⟨_,rfl,k+g,by omega,by omega,h1⟩
   ·obtain⟨e1,e2,e3,e4⟩:=h.hs s rfl
    have hsp:l.drop s=(l.drop s).take (i - s)++l.drop i:=by
     have:=List.take_append_drop (i - s) (l.drop s)
     rw[List.drop_drop,show s+(i - s)=i by omega] at this
     exact this.symm
    rw[hsp] at h1
    obtain⟨h2,h3⟩:=glob_run _ _ e4 _ h1
    rw[drop_cons hi,glob_star hp] at h2
    obtain⟨j,hj,h4⟩:=h2
    have hlen:((l.drop s).take (i - s)).length=i - s:=by rw[List.length_take,List.length_drop];omega
    rw[hlen] at h4 hj h3
    rw[List.drop_drop,List.drop_drop] at h4
    rw[List.drop_drop,List.length_drop] at hj
    rw[List.length_drop] at h3
    exact .inr ⟨_,rfl,g+((i - s)+j),by have:=h.hf;omega,by omega,h4⟩
  ·rintro (h1 | ⟨s,e,g,hg1,hg2,h1⟩)
   ·exact .inl ⟨0,Nat.zero_le _,by simpa using h1⟩
   ·cases e
    exact .inl ⟨g - k,by rw[List.length_drop];omega,by rw[List.drop_drop,show k+(g - k)=g by omega];exact h1⟩
theorem St.one {l:List Part} {t:List ByteArray} {i k f:Nat} {star:Option Nat} (h:St l t i k star f) (hi:i<l.length) (hk:k<t.length) (hp:(l[i]).1≠37) (hst:stands l[i] t[k]=true):St l t (i+1) (k+1) star f:=by
 have hf:=h.hf
 refine⟨by omega,by omega,by omega,fun s e=>?_,?_⟩
 ·obtain⟨e1,e2,e3,e4⟩:=h.hs s e
  refine⟨by omega,e2,by omega,?_⟩
  rw[show i+1 - s=(i - s)+1 by omega,List.take_succ_eq_append_getElem (by rw[List.length_drop];omega)]
  intro p hpm
  rcases List.mem_append.1 hpm with hpm | hpm
  ·exact e4 p hpm
  ·simp only[List.mem_singleton] at hpm
   subst hpm
   rw[List.getElem_drop]
   simpa [show s+(i - s)=i by omega] using hp
 ·rw[h.ok,drop_cons hi,drop_cons hk,glob_one hp]
  constructor
  ·rintro (⟨x,r,e,_,h1⟩ | h1)
   ·cases e;exact .inl h1
   ·exact .inr h1
  ·rintro (h1 | h1)
   ·exact .inl ⟨_,_,rfl,hst,h1⟩
   ·exact .inr h1
theorem St.stuck {l:List Part} {t:List ByteArray} {i k f:Nat} {star:Option Nat} (h:St l t i k star f) (hends:¬(i=l.length∧k=t.length))
  (h1:∀hi:i<l.length,(l[i]).1≠37) (h2:∀(hi:i<l.length) (hk:k<t.length),stands l[i] t[k]=false):¬glob (l.drop i) (t.drop k):=by
 have hki:=h.hi;have hkk:=h.hk
 by_cases hi:i<l.length
 ·rw[drop_cons hi,glob_one (h1 hi)]
  rintro⟨x,r,e,hx,_⟩
  by_cases hk:k<t.length
  ·rw[drop_cons hk] at e
   cases e
   rw[h2 hi hk] at hx;cases hx
  ·rw[List.drop_eq_nil_of_le (by omega)] at e;cases e
 ·rw[List.drop_eq_nil_of_le (by omega)]
  intro e
  have:=congrArg List.length (show t.drop k=[] from e)
  rw[List.length_drop] at this
  simp at this
  omega
theorem St.no {l:List Part} {t:List ByteArray} {i k f:Nat} {star:Option Nat} (h:St l t i k star f) (hno:¬glob (l.drop i) (t.drop k)) (hs:star=none∨t.length≤f):¬glob l t:=by
 rw[h.ok]
 rintro (h1 | ⟨s,rfl,g,h1,h2,_⟩)
 ·exact hno h1
 ·rcases hs with hs | hs
  ·cases hs
  ·omega
theorem St.back {l:List Part} {t:List ByteArray} {i k f s:Nat} (h:St l t i k (some s) f) (hno:¬glob (l.drop i) (t.drop k)) (hf:f<t.length):St l t s (f+1) (some s) (f+1):=by
 obtain⟨e1,e2,e3,e4⟩:=h.hs s rfl
 have:=h.hi
 refine⟨by omega,by omega,Nat.le_refl _,fun s' e=>?_,?_⟩
 ·cases e;exact⟨Nat.le_refl _,e2,by omega,by simp⟩
 ·rw[h.ok]
  constructor
  ·rintro (h1 | ⟨s',e,g,h1,h2,h3⟩)
   ·exact absurd h1 hno
   ·cases e
    rcases Nat.lt_or_ge (f+1) g with hg | hg
    ·exact .inr ⟨_,rfl,g,hg,h2,h3⟩
    ·obtain rfl:g=f+1:=by omega
     exact .inl h3
  ·rintro (h1 | ⟨s',e,g,h1,h2,h3⟩)
   ·exact .inr ⟨_,rfl,f+1,by omega,by omega,h1⟩
   ·cases e
    exact .inr ⟨_,rfl,g,by omega,h2,h3⟩
theorem St.done {l:List Part} {t:List ByteArray} {f:Nat} {star:Option Nat} (h:St l t l.length t.length star f):glob l t:=by
 rw[h.ok];left
 rw[List.drop_eq_nil_of_le (Nat.le_refl _),List.drop_eq_nil_of_le (Nat.le_refl _)];rfl
def Row (l:List Part) (t:List ByteArray) (i:Nat) (row:Nat→Prop):Prop:=glob l t↔∃k,k≤t.length∧row k∧glob (l.drop i) (t.drop k)
theorem Row.start (l:List Part) (t:List ByteArray):Row l t 0 (fun k=>k=0):=by
 unfold Row
 constructor
 ·intro h;exact⟨0,Nat.zero_le _,rfl,h⟩
 ·rintro⟨k,_,rfl,h⟩;exact h
theorem Row.any {l:List Part} {t:List ByteArray} {i:Nat} {row:Nat→Prop} (h:Row l t i row) (hi:i<l.length) (hp:(l[i]).1=37):Row l t (i+1) (fun k=>∃j,j≤k∧row j):=by
 unfold Row at h ⊢
 rw[h]
 constructor
 ·rintro⟨k,hk,hr,hg⟩
  rw[drop_cons hi,glob_star hp] at hg
  obtain⟨j,hj,hg⟩:=hg
  rw[List.length_drop] at hj
  rw[List.drop_drop] at hg
  exact⟨k+j,by omega,⟨k,by omega,hr⟩,hg⟩
 ·rintro⟨k,hk,⟨j,hj,hr⟩,hg⟩
  refine⟨j,by omega,hr,?_⟩
  rw[drop_cons hi,glob_star hp]
  exact⟨k - j,by rw[List.length_drop];omega,by rw[List.drop_drop,show j+(k - j)=k by omega];exact hg⟩
theorem Row.one {l:List Part} {t:List ByteArray} {i:Nat} {row:Nat→Prop} (h:Row l t i row) (hi:i<l.length) (hp:(l[i]).1≠37) :
  Row l t (i+1) (fun k=>∃j x,k=j+1∧row j∧t[j]? = some x∧stands l[i] x=true):=by
 unfold Row at h ⊢
 rw[h]
 constructor
 ·rintro⟨k,hk,hr,hg⟩
  rw[drop_cons hi,glob_one hp] at hg
  obtain⟨x,r,e,hx,hg⟩:=hg
  by_cases hkl:k<t.length
  ·rw[drop_cons hkl] at e
   simp only[List.cons.injEq] at e
   obtain⟨rfl,rfl⟩:=e
   exact⟨k+1,by omega,⟨k,_,rfl,hr,List.getElem?_eq_getElem hkl,hx⟩,hg⟩
  ·rw[List.drop_eq_nil_of_le (by omega)] at e;cases e
 ·rintro⟨k,hk,⟨j,x,rfl,hr,hx,hst⟩,hg⟩
  obtain⟨hjl,rfl⟩:=List.getElem?_eq_some_iff.1 hx
  refine⟨j,by omega,hr,?_⟩
  rw[drop_cons hi,glob_one hp,drop_cons hjl]
  exact⟨_,_,rfl,hst,hg⟩
theorem Row.done {l:List Part} {t:List ByteArray} {row:Nat→Prop} (h:Row l t l.length row):glob l t↔row t.length:=by
 unfold Row at h
 rw[h,List.drop_eq_nil_of_le (Nat.le_refl _)]
 constructor
 ·rintro⟨k,hk,hr,hg⟩
  have:=congrArg List.length (show t.drop k=[] from hg)
  rw[List.length_drop] at this
  simp at this
  rwa [show t.length=k by omega]
 ·intro hr;exact⟨_,Nat.le_refl _,hr,by rw[List.drop_eq_nil_of_le (Nat.le_refl _)];rfl⟩
end Go.Proofs.YtegpnpdnanfhbaaGreatDoor.LikeP
