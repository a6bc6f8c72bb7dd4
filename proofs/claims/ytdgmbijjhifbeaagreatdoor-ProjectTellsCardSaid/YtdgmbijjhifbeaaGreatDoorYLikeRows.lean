/- part by part, row by row: plain -/
import Derived.Test.YtdgmbijjhifbeaaGreatDoorYLikeRef2
namespace Go.Proofs.YtdgmbijjhifbeaaGreatDoor.LikeP
open Go.RowKit K
theorem parts_split (P:List ByteArray) (i:Nat) (ho:openE false (P.take i)=false):partsE false P=partsE false (P.take i)++partsE false (P.drop i):=by
 have:=partsE_append false (P.take i) (P.drop i)
 rwa [List.take_append_drop,ho] at this
theorem step_one {P:List ByteArray} {i:Nat} (ho:openE false (P.take i)=false) (hi:i<P.length) (hx:P[i]≠backslash) (q:Part) (hq:partOf false P[i]=[q]) :
  (partsE false P)[(partsE false (P.take i)).length]? = some q∧openE false (P.take (i+1))=false∧(partsE false (P.take (i+1))).length=(partsE false (P.take i)).length+1:=by
 have h1:P.take (i+1)=P.take i++[P[i]]:=List.take_succ_eq_append_getElem hi
 have h2:partsE false (P.take (i+1))=partsE false (P.take i)++[q]:=by rw[h1,partsE_snoc,ho,hq]
 have h3:openE false (P.take (i+1))=false:=by rw[h1,openE_snoc,ho,decide_eq_false hx];rfl
 refine⟨?_,h3,by rw[h2,List.length_append];rfl⟩
 rw[parts_split P (i+1) h3,h2,List.append_assoc,List.getElem?_append_right (Nat.le_refl _)]
 simp
theorem step_bs {P:List ByteArray} {i:Nat} (h:openE false P=false) (ho:openE false (P.take i)=false) (hi:i<P.length) (hx:P[i]=backslash) :
  ∃h2:i+1<P.length,(partsE false P)[(partsE false (P.take i)).length]? = some (0,P[i+1])∧openE false (P.take (i+1+1))=false∧(partsE false (P.take (i+1+1))).length=(partsE false (P.take i)).length+1:=by
 have h1:P.take (i+1)=P.take i++[P[i]]:=List.take_succ_eq_append_getElem hi
 have h3:openE false (P.take (i+1))=true:=by rw[h1,openE_snoc,ho,decide_eq_true hx];rfl
 have h4:partsE false (P.take (i+1))=partsE false (P.take i):=by rw[h1,partsE_snoc,ho,hx,part_bs,List.append_nil]
 have h5:i+1<P.length:=by
  rcases Nat.lt_or_ge (i+1) P.length with h5 | h5
  ·exact h5
  ·rw[List.take_of_length_le h5,h] at h3;cases h3
 have h6:P.take (i+1+1)=P.take (i+1)++[P[i+1]]:=List.take_succ_eq_append_getElem h5
 have h7:partsE false (P.take (i+1+1))=partsE false (P.take i)++[(0,P[i+1])]:=by rw[h6,partsE_snoc,h3,part_esc,h4]
 have h8:openE false (P.take (i+1+1))=false:=by rw[h6,openE_snoc,h3];rfl
 refine⟨h5,?_,h8,by rw[h7,List.length_append];rfl⟩
 rw[parts_split P (i+1+1) h8,h7,List.append_assoc,List.getElem?_append_right (Nat.le_refl _)]
 simp
def rowP (r:List Bool) (k:Nat):Prop:=r[k]? = some true
def row0 (n:Nat):List Bool:=(List.range (n+1)).map fun k=>decide (k=0)
def nxA (r:List Bool) (k:Nat):Bool:=(r.take (k+1)).any id
def nextA (n:Nat) (r:List Bool):List Bool:=(List.range (n+1)).map (nxA r)
def nxO (r:List Bool) (t:List ByteArray) (o:Bool) (y:ByteArray):Nat→Bool
 | 0=>false
 | k+1=>r.getD k false&&(o||decide (t.getD k ByteArray.empty=y))
def nextO (n:Nat) (r:List Bool) (t:List ByteArray) (o:Bool) (y:ByteArray):List Bool:=(List.range (n+1)).map (nxO r t o y)
theorem take_range {α:Type} (f:Nat→α) (m k:Nat) (h:k<m):((List.range m).map f).take (k+1)=((List.range m).map f).take k++[f k]:=by
 rw[List.take_succ_eq_append_getElem (by simpa using h)];simp
theorem row_get {f:Nat→Bool} {m k:Nat}:rowP ((List.range m).map f) k↔k<m∧f k=true:=by
 unfold rowP
 by_cases h:k<m
 ·simp[h]
 ·rw[List.getElem?_eq_none (by simp;omega)];simp[h]
theorem nxA_zero (r:List Bool) (h:0<r.length):nxA r 0=r[0]:=by
 unfold nxA
 rw[List.take_succ_eq_append_getElem h];simp
theorem nxA_succ (r:List Bool) (k:Nat) (h:k+1<r.length):nxA r (k+1)=(r[k+1]||nxA r k):=by
 unfold nxA
 rw[List.take_succ_eq_append_getElem h,List.any_append];simp[Bool.or_comm]
theorem nxA_iff (r:List Bool) (k:Nat):nxA r k=true↔∃j,j≤k∧rowP r j:=by
 unfold nxA rowP
 rw[List.any_eq_true]
 constructor
 ·rintro⟨x,hx,hxt⟩
  obtain⟨j,hj⟩:=List.getElem?_of_mem hx
  have hl:=(List.getElem?_eq_some_iff.1 hj).1
  rw[List.length_take] at hl
  rw[List.getElem?_take_of_lt (by omega)] at hj
  exact⟨j,by omega,by rw[hj];simpa using hxt⟩
 ·rintro⟨j,hj,hr⟩
  exact⟨true,List.mem_of_getElem? (i:=j) (by rw[List.getElem?_take_of_lt (by omega)];exact hr),rfl⟩
theorem Row.congr {l:List Part} {t:List ByteArray} {i:Nat} {r r':Nat→Prop} (h:Row l t i r) (hr:∀k,k≤t.length→(r k↔r' k)):Row l t i r':=by
 unfold Row at h ⊢
 rw[h]
 constructor
 ·rintro⟨k,hk,h1,h2⟩;exact⟨k,hk,(hr k hk).1 h1,h2⟩
 ·rintro⟨k,hk,h1,h2⟩;exact⟨k,hk,(hr k hk).2 h1,h2⟩
theorem row_start (l:List Part) (t:List ByteArray):Row l t 0 (rowP (row0 t.length)):=
 (Row.start l t).congr fun k hk=>by
  unfold row0
  rw[row_get];simp;omega
theorem row_any {l:List Part} {t:List ByteArray} {j:Nat} {r:List Bool} (h:Row l t j (rowP r)) {q:Part} (hq:l[j]? = some q) (hp:q.1=37):Row l t (j+1) (rowP (nextA t.length r)):=by
 obtain⟨hj,rfl⟩:=List.getElem?_eq_some_iff.1 hq
 refine (h.any hj hp).congr fun k hk=>?_
 unfold nextA
 rw[row_get,nxA_iff]
 constructor
 ·intro h;exact⟨by omega,h⟩
 ·intro h;exact h.2
theorem row_one {l:List Part} {t:List ByteArray} {j:Nat} {r:List Bool} (h:Row l t j (rowP r)) {q:Part} (hq:l[j]? = some q) (o:Bool) (y:ByteArray)
  (hs:∀x,stands q x=(o||decide (x=y))) (hp:q.1≠37):Row l t (j+1) (rowP (nextO t.length r t o y)):=by
 obtain⟨hj,rfl⟩:=List.getElem?_eq_some_iff.1 hq
 refine (h.one hj hp).congr fun k hk=>?_
 unfold nextO
 rw[row_get]
 constructor
 ·rintro⟨m,x,rfl,h1,h2,h3⟩
  refine⟨by omega,?_⟩
  show (r.getD m false&&(o||decide (t.getD m ByteArray.empty=y)))=true
  rw[List.getD_eq_getElem?_getD,List.getD_eq_getElem?_getD,show r[m]? = some true from h1,h2]
  rw[hs] at h3
  simpa using h3
 ·rintro⟨_,h1⟩
  cases k with
  | zero=>cases h1
  | succ m=>
   have h2:(r.getD m false&&(o||decide (t.getD m ByteArray.empty=y)))=true:=h1
   rw[Bool.and_eq_true,List.getD_eq_getElem?_getD,List.getD_eq_getElem?_getD] at h2
   have hm:m<t.length:=by omega
   rw[List.getElem?_eq_getElem hm] at h2
   refine⟨m,t[m],rfl,?_,List.getElem?_eq_getElem hm,by rw[hs];simpa using h2.2⟩
   show r[m]? = some true
   cases hr:r[m]? with
   | none=>rw[hr] at h2;cases h2.1
   | some b=>rw[hr] at h2;have:=h2.1;simp at this;rw[this]
theorem stands_esc (y x:ByteArray):stands (0,y) x=(false||decide (x=y)):=by
 unfold stands
 rw[Bool.eq_iff_iff];simp[eq_comm]
theorem stands_under (e y x:ByteArray):stands (95,e) x=(true||decide (x=y)):=by
 unfold stands;simp
end Go.Proofs.YtdgmbijjhifbeaaGreatDoor.LikeP
