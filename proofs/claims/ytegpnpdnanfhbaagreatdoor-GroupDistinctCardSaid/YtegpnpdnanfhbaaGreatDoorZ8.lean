/- Parts of the proof, one behind the other: PbGrpR PbLaws9. Conditions: none beyond what each theorem says. -/
import Derived.Test.YtegpnpdnanfhbaaGreatDoorZ7
set_option linter.unusedVariables false
set_option linter.unusedSimpArgs false
namespace Go.Proofs.YtegpnpdnanfhbaaGreatDoor.Pm
section
open Go.RowKit K
set_option maxRecDepth 100000
set_option maxRecDepth 100000
def leastF (o:ValueD→ValueD→Int):List ValueD→ValueD
 | []=>noV
 | v::vs=>vs.foldl (fun m x=>if o x m<0 then x else m) v
theorem minF_least (l:List ValueD):minF l=leastF vOrd l:=by cases l<;>rfl
theorem maxF_least (l:List ValueD):maxF l=leastF (fun a b=>vOrd b a) l:=by
 cases l with
 | nil=>rfl
 | cons v vs=>
  show vs.foldl _ v=vs.foldl _ v
  congr 1
  funext m x
  have:=vOrd_swap m x
  by_cases q:0<vOrd x m
  ·rw[if_pos q,if_pos (show vOrd m x<0 by omega)]
  ·rw[if_neg q,if_neg (show ¬vOrd m x<0 by omega)]
structure OrdV (o:ValueD→ValueD→Int):Prop where
 swap:∀x y,o y x=- o x y
 trans:∀x y z,o x y≤0→o y z≤0→o x z≤0
 zero:∀x y,o x y=0→x=y
theorem ordV_up:OrdV vOrd:=⟨vOrd_swap,fun _ _ _ h1 h2=>vOrd_tr h1 h2,fun x y=>(vOrd_zero x y).1⟩
theorem ordV_down:OrdV (fun a b=>vOrd b a):=⟨fun x y=>vOrd_swap y x,fun _ _ _ h1 h2=>vOrd_tr h2 h1,fun x y h=>((vOrd_zero y x).1 h).symm⟩
theorem least_fold {o:ValueD→ValueD→Int} (ho:OrdV o):∀(vs:List ValueD) (v:ValueD),(vs.foldl (fun m x=>if o x m<0 then x else m) v∈v::vs)∧∀x∈v::vs,o (vs.foldl (fun m x=>if o x m<0 then x else m) v) x≤0
 | [],v=>⟨List.mem_cons_self,fun x hx=>by
   rw[List.mem_singleton.1 hx]
   have:=ho.swap v v
   show o v v≤0
   omega⟩
 | w::vs,v=>by
  rw[List.foldl_cons]
  by_cases q:o w v<0
  ·rw[if_pos q]
   obtain⟨h1,h2⟩:=least_fold ho vs w
   refine⟨List.mem_cons_of_mem _ h1,fun x hx=>?_⟩
   rcases List.mem_cons.1 hx with rfl | hx
   ·exact ho.trans _ w _ (h2 w List.mem_cons_self) (by omega)
   ·exact h2 x hx
  ·rw[if_neg q]
   obtain⟨h1,h2⟩:=least_fold ho vs v
   refine⟨?_,fun x hx=>?_⟩
   ·rcases List.mem_cons.1 h1 with h1 | h1
    ·rw[h1];exact List.mem_cons_self
    ·exact List.mem_cons_of_mem _ (List.mem_cons_of_mem _ h1)
   ·rcases List.mem_cons.1 hx with rfl | hx
    ·exact h2 _ List.mem_cons_self
    ·rcases List.mem_cons.1 hx with rfl | hx
     ·have:=ho.swap x v
      exact ho.trans _ v _ (h2 v List.mem_cons_self) (by omega)
     ·exact h2 x (List.mem_cons_of_mem _ hx)
theorem least_in {o:ValueD→ValueD→Int} (ho:OrdV o) {l:List ValueD} (h:l≠[]):leastF o l∈l∧∀x∈l,o (leastF o l) x≤0:=by
 cases l with
 | nil=>exact absurd rfl h
 | cons v vs=>exact least_fold ho vs v
theorem least_parts {o:ValueD→ValueD→Int} (ho:OrdV o) {ps:List PartD} {col:List ValueD} {f:PartD→List ValueD} (hn:∀p∈ps,∀v∈f p,v.Kind≠0) (hin:∀p∈ps,∀v∈f p,v∈col) (hout:∀v∈col,∃p∈ps,v∈f p) :
  leastF o ((ps.map fun p=>leastF o (f p)).filter fun v=>decide (v.Kind≠0))=leastF o col:=by
 obtain⟨M,hM⟩:∃M,M=(ps.map fun p=>leastF o (f p)).filter fun v=>decide (v.Kind≠0):=⟨_,rfl⟩
 have m1:∀v∈M,∃p∈ps,v=leastF o (f p)∧f p≠[]:=fun v hv=>by
  rw[hM] at hv
  obtain⟨h1,h2⟩:=List.mem_filter.1 hv
  obtain⟨p,hp,rfl⟩:=List.mem_map.1 h1
  exact⟨p,hp,rfl,fun e=>by rw[e] at h2;exact of_decide_eq_true h2 rfl⟩
 have m2:∀p∈ps,f p≠[]→leastF o (f p)∈M:=fun p hp hf=>by
  rw[hM]
  exact List.mem_filter.2 ⟨List.mem_map.2 ⟨p,hp,rfl⟩,decide_eq_true (hn p hp _ (least_in ho hf).1)⟩
 rw[← hM]
 by_cases hc:col=[]
 ·have:M=[]:=by
   cases M with
   | nil=>rfl
   | cons v vs=>
    obtain⟨p,hp,_,hf⟩:=m1 v List.mem_cons_self
    have:=hin p hp _ (least_in ho hf).1
    rw[hc] at this;cases this
  rw[this,hc]
 ·obtain⟨c1,c2⟩:=least_in ho hc
  obtain⟨p,hp,hv⟩:=hout _ c1
  have hf:f p≠[]:=fun e=>by rw[e] at hv;cases hv
  have hpm:=m2 p hp hf
  have hM0:M≠[]:=fun e=>by rw[e] at hpm;cases hpm
  obtain⟨d1,d2⟩:=least_in ho hM0
  obtain⟨p',hp',e',hf'⟩:=m1 _ d1
  have hd:leastF o M∈col:=by rw[e'];exact hin p' hp' _ (least_in ho hf').1
  have h1:=c2 _ hd
  have h2:=ho.trans _ _ _ (d2 _ hpm) ((least_in ho hf).2 _ hv)
  have:=ho.swap (leastF o M) (leastF o col)
  exact ho.zero _ _ (by omega)
theorem sumF_ok {col:List ValueD} (h40:col.length≤40) (h:(sumF col).2=0):(∀v∈col,v.Kind=1)∧(col=[]∧(sumF col).1=noV∨col≠[]∧(sumF col).1=⟨1,(col.map ValueD.N).sum,[]⟩∧WholeP.In64 (col.map ValueD.N).sum):=by
 unfold sumF at h ⊢
 by_cases h1:col.any (fun v=>decide (v.Kind≠1))=true
 ·rw[if_pos h1] at h;cases h
 ·rw[if_neg h1] at h ⊢
  refine⟨fun v hv=>Decidable.of_not_not fun q=>h1 (List.any_eq_true.2 ⟨v,hv,decide_eq_true q⟩),?_⟩
  by_cases h2:(WholeP.total (col.map ValueD.N)).2≠0∨col.length=0
  ·rw[if_pos h2] at h ⊢
   exact .inl ⟨List.eq_nil_of_length_eq_zero (h2.resolve_left (not_not_intro h)),rfl⟩
  ·rw[if_neg h2]
   right
   have h3:(WholeP.total (col.map ValueD.N)).2=0:=Decidable.of_not_not fun q=>h2 (.inl q)
   refine⟨fun e=>h2 (.inr (by rw[e];rfl)),?_⟩
   unfold WholeP.total at h3 ⊢
   rw[if_neg (by rw[List.length_map];omega)] at h3 ⊢
   unfold WholeP.fit at h3 ⊢
   split at h3
   ·rename_i hf;rw[if_pos hf];exact⟨rfl,hf⟩
   ·cases h3
theorem sumF_of {col:List ValueD} (h40:col.length≤40) (h1:∀v∈col,v.Kind=1) (h2:WholeP.In64 (col.map ValueD.N).sum):sumF col=(if col=[] then noV else ⟨1,(col.map ValueD.N).sum,[]⟩,0):=by
 unfold sumF
 rw[if_neg (fun q=>by
  obtain⟨v,hv,hd⟩:=List.any_eq_true.1 q
  exact of_decide_eq_true hd (h1 v hv))]
 have ht:WholeP.total (col.map ValueD.N)=((col.map ValueD.N).sum,0):=by
  unfold WholeP.total
  rw[if_neg (by rw[List.length_map];omega)]
  exact if_pos h2
 rw[ht]
 by_cases hc:col=[]
 ·rw[if_pos hc,if_pos (.inr (by rw[hc];rfl))]
 ·rw[if_neg hc,if_neg (by rintro (h | h);exact h rfl;exact hc (List.eq_nil_of_length_eq_zero h))]
theorem colF_app (l m:List RowT) (c:Nat):colF (l++m) c=colF l c++colF m c:=by
 unfold colF
 rw[List.map_append,List.filter_append]
theorem sum_filter {α:Type} (g:α→Int) (b:α→Bool):∀l:List α,(∀a∈l,b a=false→g a=0)→((l.filter b).map g).sum=(l.map g).sum
 | [],_=>rfl
 | a::l,h=>by
  have ih:=sum_filter g b l fun x hx=>h x (List.mem_cons_of_mem _ hx)
  rw[List.filter_cons,List.map_cons,List.sum_cons]
  cases hb:b a with
  | true=>
   rw[if_pos rfl,List.map_cons,List.sum_cons,ih]
  | false=>
   rw[if_neg (by decide),ih,h a List.mem_cons_self hb];omega
abbrev aggs4 (c:Int):List AggD:=[⟨1,c⟩,⟨2,c⟩,⟨3,c⟩,⟨4,c⟩]
abbrev aggsW:List AggD:=[⟨2,1⟩,⟨2,2⟩,⟨3,3⟩,⟨4,4⟩]
def told4 (col:List ValueD):RowT:=[⟨1,(col.length:Int),[]⟩,(sumF col).1,minF col,maxF col]
theorem tell_min (l:List RowT) (c:Int):tellF l ⟨3,c⟩=(minF (colF l c.toNat),0):=by
 unfold tellF
 rw[if_neg (by rintro⟨h,_⟩;cases h),if_neg (show ¬(3:Int)=1 by decide),if_neg (show ¬(3:Int)=2 by decide)]
 split
 ·rename_i h;rw[List.eq_nil_of_length_eq_zero h];rfl
 ·rfl
theorem tell_max (l:List RowT) (c:Int):tellF l ⟨4,c⟩=(maxF (colF l c.toNat),0):=by
 unfold tellF
 rw[if_neg (by rintro⟨h,_⟩;cases h),if_neg (show ¬(4:Int)=1 by decide),if_neg (show ¬(4:Int)=2 by decide)]
 split
 ·rename_i h;rw[List.eq_nil_of_length_eq_zero h];rfl
 ·rfl
theorem tell_sum (l:List RowT) (c:Int):tellF l ⟨2,c⟩=sumF (colF l c.toNat):=by
 unfold tellF
 rw[if_neg (by rintro⟨h,_⟩;cases h),if_neg (show ¬(2:Int)=1 by decide),if_pos rfl]
theorem tell_cnt (l:List RowT) {c:Int} (hc:0≤c):tellF l ⟨1,c⟩=(⟨1,((colF l c.toNat).length:Int),[]⟩,0):=by
 unfold tellF
 rw[if_neg (by rintro⟨_,h⟩;have h:c<0:=h;omega),if_pos rfl]
theorem rowP4 {c:Int} (hc:0≤c) {p:PartD} {r:RowT} (h:rowP (aggs4 c) p=.ok r):(sumF (colF p.2 c.toNat)).2=0∧r=p.1++told4 (colF p.2 c.toNat):=by
 unfold rowP at h
 by_cases hz:(sumF (colF p.2 c.toNat)).2=0
 ·simp[mapX,tell_cnt p.2 hc,tell_sum,tell_min,tell_max,pairX,hz] at h
  exact⟨hz,h.symm⟩
 ·simp[mapX,tell_cnt p.2 hc,tell_sum,pairX,hz] at h
theorem rowPW {p:PartD} (h1:(sumF (colF p.2 1)).2=0) (h2:(sumF (colF p.2 2)).2=0):rowP aggsW p=.ok (p.1++[(sumF (colF p.2 1)).1,(sumF (colF p.2 2)).1,minF (colF p.2 3),maxF (colF p.2 4)]):=by
 unfold rowP
 simp only[mapX,tell_sum,tell_min,tell_max]
 unfold pairX
 rw[if_pos (show (sumF (colF p.2 (1:Int).toNat)).2=0 from h1),if_pos (show (sumF (colF p.2 (2:Int).toNat)).2=0 from h2),if_pos rfl,if_pos rfl]
 rfl
theorem gX_is {α β:Type} {f:α→Except Int β} {g:α→β}:∀{l:List α} {bs:List β},(∀a∈l,∀b,f a=.ok b→b=g a)→mapX f l=.ok bs→bs=l.map g
 | [],bs,_,h=>by rw[mapX] at h;cases h;rfl
 | a::l,bs,hf,h=>by
  rw[mapX] at h
  split at h
  ·cases h
  ·rename_i b hb
   split at h
   ·cases h
   ·rename_i cs hc
    cases h
    rw[hf a List.mem_cons_self b hb,gX_is (fun x hx=>hf x (List.mem_cons_of_mem _ hx)) hc]
    rfl
theorem group4 {l:List RowT} {by_:List Int} {c:Int} (hc:0≤c) (h:(groupF l by_ (aggs4 c)).2=0):rowsChk l=0∧grpG l by_ (aggs4 c)=0∧(∀p∈partsF by_ l,(sumF (colF p.2 c.toNat)).2=0)∧groupF l by_ (aggs4 c)=((partsF by_ l).map fun p=>p.1++told4 (colF p.2 c.toNat),0):=by
 obtain⟨h1,h2,m,hm,e⟩:=groupF_ok h
 refine⟨h1,h2,fun p hp=>?_,?_⟩
 ·obtain⟨k,hk,rfl⟩:=List.getElem_of_mem hp
  exact (rowP4 hc (gX_one hm k hk (by rw[mapX_len hm];exact hk))).1
 ·rw[e,gX_is (fun p _ b hb=>(rowP4 hc hb).2) hm]
theorem mem_colF {l:List RowT} {c:Nat} {v:ValueD}:v∈colF l c↔∃r∈l,v=r[c]?.getD noV∧v.Kind≠0:=by
 unfold colF
 rw[List.mem_filter,List.mem_map]
 constructor
 ·rintro⟨⟨r,hr,rfl⟩,h⟩;exact⟨r,hr,rfl,of_decide_eq_true h⟩
 ·rintro⟨r,hr,rfl,h⟩;exact⟨⟨r,hr,rfl⟩,decide_eq_true h⟩
theorem parts_in {by_:List Int} (hb:by_≠[]) {l:List RowT}:(∀p∈partsF by_ l,(∃r∈l,p.1=keyOfR by_ r)∧∀r∈p.2,r∈l)∧∀r∈l,∃p∈partsF by_ l,r∈p.2:=by
 rw[partsF_keys hb]
 refine⟨fun p hp=>?_,fun r hr=>?_⟩
 ·obtain⟨k,hk,rfl⟩:=List.mem_map.1 hp
  obtain⟨r,hr,e⟩:=keysE_mem.1 hk
  exact⟨⟨r,hr,e.symm⟩,fun r hr=>(List.mem_filter.1 hr).1⟩
 ·exact⟨_,List.mem_map.2 ⟨_,keysE_mem.2 ⟨r,hr,rfl⟩,rfl⟩,List.mem_filter.2 ⟨hr,decide_eq_true rfl⟩⟩
theorem sum_map_N (f:PartD→ValueD) (ps:List PartD):((ps.map f).map ValueD.N).sum=(ps.map fun p=>(f p).N).sum:=by rw[List.map_map];rfl
abbrev OkN (v:ValueD):Prop:=vChk v=0∧WholeP.In64 v.N
theorem okN_no:OkN noV:=⟨rfl,by decide⟩
theorem okN_int {n:Int} (h:WholeP.In64 n):OkN ⟨1,n,[]⟩:=⟨by
 unfold vChk
 rw[if_neg (show ¬((1:Int)<0∨3<(1:Int)) by decide),if_neg (by rintro (⟨h,_⟩ | ⟨_,h⟩);exact h rfl;exact h rfl),if_neg (by simp)],h⟩
theorem told4_ok {col:List ValueD} (h40:col.length≤40) (hs:(sumF col).2=0) (hv:∀v∈col,OkN v):∀v∈told4 col,OkN v:=by
 have hm:∀o,OrdV o→OkN (leastF o col):=fun o ho=>by
  by_cases h:col=[]
  ·rw[h];exact okN_no
  ·exact hv _ (least_in ho h).1
 intro v h
 unfold told4 at h
 simp only[List.mem_cons,List.not_mem_nil,or_false] at h
 rcases h with rfl | rfl | rfl | rfl
 ·exact okN_int (by unfold WholeP.In64;omega)
 ·rcases (sumF_ok h40 hs).2 with ⟨_,h⟩ | ⟨_,h,h2⟩<;>rw[h]
  ·exact okN_no
  ·exact okN_int h2
 ·rw[minF_least];exact hm _ ordV_up
 ·rw[maxF_least];exact hm _ ordV_down
theorem group_whole {l:List RowT} {c b:Int} (hc:0≤c) (hl:l≠[]) (hN:∀r∈l,∀v∈r,WholeP.In64 v.N) (hf:(groupF l [] (aggs4 c)).2=0) (hh:(groupF l [b] (aggs4 c)).2=0) :
  groupF (groupF l [b] (aggs4 c)).1 [] aggsW=((groupF l [] (aggs4 c)).1,0)∧∀r∈(groupF l [b] (aggs4 c)).1,∀v∈r,OkN v:=by
 obtain⟨k1,_,k3,k4⟩:=group4 hc hf
 obtain⟨_,_,g3,g4⟩:=group4 hc hh
 rw[k4,g4]
 rw[partsF_nil] at k3 ⊢
 have hbn:[b]≠([]:List Int):=List.cons_ne_nil _ _
 obtain⟨hpi,hpo⟩:=parts_in hbn (l:=l)
 obtain⟨h40,h8⟩:=rowsChk_ok.1 k1
 have hP40:=parts_40 (by_:=[b]) h40
 have hkeys:=parts_keys [b] l
 have cnt:=parts_sum (φ:=fun rows=>((colF rows c.toNat).length:Int)) rfl (fun rows r=>by simp only[colF_app,List.length_append];omega) [b] l
 have sms:=parts_sum (φ:=fun rows=>((colF rows c.toNat).map ValueD.N).sum) rfl (fun rows r=>by simp only[colF_app,List.map_append,List.sum_append]) [b] l
 have all:=parts_sum (φ:=fun rows=>(rows.length:Int)) rfl (fun rows r=>by simp) [b] l
 have hlen:∀p∈partsF [b] l,p.2.length≤40:=fun p hp=>by
  rw[partsF_keys hbn] at hp
  obtain⟨k,hk,rfl⟩:=List.mem_map.1 hp
  have:(ofK [b] l k).length≤l.length:=List.length_filter_le _ _
  show (ofK [b] l k).length≤40
  omega
 obtain⟨P,hP⟩:∃P,P=partsF [b] l:=⟨_,rfl⟩
 rw[← hP] at g3 hpi hpo hP40 hkeys cnt sms all hlen ⊢
 obtain⟨col,hcol⟩:∃col,col=colF l c.toNat:=⟨_,rfl⟩
 have k3:(sumF col).2=0:=by rw[hcol];exact k3 _ List.mem_cons_self
 have hcl:col.length≤40:=by rw[hcol];have:=colF_len l c.toNat;omega
 have hP0:P≠[]:=fun e=>by
  rw[e] at all
  have:(l.length:Int)=0:=all.symm
  exact hl (List.eq_nil_of_length_eq_zero (by omega))
 have hin:∀p∈P,∀v∈colF p.2 c.toNat,v∈col:=fun p hp v hv=>by
  obtain⟨r,hr,h⟩:=mem_colF.1 hv
  rw[hcol]
  exact mem_colF.2 ⟨r,(hpi p hp).2 r hr,h⟩
 have hout:∀v∈col,∃p∈P,v∈colF p.2 c.toNat:=fun v hv=>by
  rw[hcol] at hv
  obtain⟨r,hr,h⟩:=mem_colF.1 hv
  obtain⟨p,hp,hm⟩:=hpo r hr
  exact⟨p,hp,mem_colF.2 ⟨r,hm,h⟩⟩
 have hkd:∀p∈P,∀v∈colF p.2 c.toNat,v.Kind≠0:=fun p _ v hv=>(mem_colF.1 hv).choose_spec.2.2
 have hvok:∀v∈col,OkN v:=fun v hv=>by
  rw[hcol] at hv
  obtain⟨r,hr,e,hk⟩:=mem_colF.1 hv
  cases hg:r[c.toNat]? with
  | none=>rw[hg] at e;rw[e];exact okN_no
  | some x=>
   rw[hg] at e
   have hx:=List.mem_of_getElem? hg
   rw[show v=x from e]
   exact⟨vChkAll_ok.1 (h8 r hr).2.2 x hx,hN r hr x hx⟩
 have hpl:∀p∈P,(colF p.2 c.toNat).length≤40:=fun p hp=>by
  have:=colF_len p.2 c.toNat
  have:=hlen p hp
  omega
 obtain⟨g,hg⟩:∃g,g=P.map fun p=>p.1++told4 (colF p.2 c.toNat):=⟨_,rfl⟩
 have hgr:∀r∈g,r.length=5∧∀v∈r,OkN v:=fun r hr=>by
  rw[hg] at hr
  obtain⟨p,hp,rfl⟩:=List.mem_map.1 hr
  refine⟨by rw[List.length_append,hkeys p hp];rfl,fun v hv=>?_⟩
  rcases List.mem_append.1 hv with hv | hv
  ·obtain⟨r,hr,e⟩:=(hpi p hp).1
   rw[e] at hv
   unfold keyOfR at hv
   rw[List.map_singleton,List.mem_singleton,List.getD_eq_getElem?_getD] at hv
   cases hx:r[b.toNat]? with
   | none=>rw[hx] at hv;rw[hv];exact okN_no
   | some x=>
    rw[hx] at hv
    have hm:=List.mem_of_getElem? hx
    rw[show v=x from hv]
    exact⟨vChkAll_ok.1 (h8 r hr).2.2 x hm,hN r hr x hm⟩
  ·exact told4_ok (hpl p hp) (g3 p hp) (fun v hv=>hvok v (hin p hp v hv)) v hv
 have hgl:g.length=P.length:=by rw[hg,List.length_map]
 have hgw:widthF g=5:=by
  unfold widthF
  cases hgc:g with
  | nil=>rw[hgc] at hgl;exact absurd (List.eq_nil_of_length_eq_zero hgl.symm) hP0
  | cons r t=>exact (hgr r (by rw[hgc];exact List.mem_cons_self)).1
 have colG:∀k,k<4→colF g (k+1)=(P.map fun p=>(told4 (colF p.2 c.toNat))[k]?.getD noV).filter fun v=>decide (v.Kind≠0):=fun k hk=>by
  unfold colF
  rw[hg,List.map_map]
  congr 1
  refine List.map_congr_left fun p hp=>?_
  show (p.1++told4 (colF p.2 c.toNat))[k+1]?.getD noV=_
  have h1:p.1.length=1:=hkeys p hp
  rw[List.getElem?_append_right (by omega),h1];rfl
 have e1:sumF (colF g 1)=(⟨1,(col.length:Int),[]⟩,0):=by
  have hc1:colF g 1=P.map fun p=>(⟨1,((colF p.2 c.toNat).length:Int),[]⟩:ValueD):=by
   rw[colG 0 (by decide)]
   refine List.filter_eq_self.2 fun v hv=>?_
   obtain⟨p,_,rfl⟩:=List.mem_map.1 hv
   rfl
  have hsum:((colF g 1).map ValueD.N).sum=(col.length:Int):=by rw[hc1,sum_map_N,hcol];exact cnt
  rw[sumF_of (by rw[hc1,List.length_map];exact hP40) (fun v hv=>by
   rw[hc1] at hv
   obtain⟨p,_,rfl⟩:=List.mem_map.1 hv
   rfl) (by rw[hsum];unfold WholeP.In64;omega),hsum,if_neg]
  intro e
  rw[hc1] at e
  exact hP0 (List.map_eq_nil_iff.1 e)
 have e2:sumF (colF g 2)=((sumF col).1,0):=by
  have hc2:colF g 2=(P.map fun p=>(sumF (colF p.2 c.toNat)).1).filter fun v=>decide (v.Kind≠0):=colG 1 (by decide)
  have hone:∀p∈P,(sumF (colF p.2 c.toNat)).1.N=((colF p.2 c.toNat).map ValueD.N).sum∧((colF p.2 c.toNat≠[]∧(sumF (colF p.2 c.toNat)).1.Kind=1)∨(colF p.2 c.toNat=[]∧(sumF (colF p.2 c.toNat)).1=noV)):=fun p hp=>by
   rcases (sumF_ok (hpl p hp) (g3 p hp)).2 with ⟨h1,h2⟩ | ⟨h1,h2,_⟩
   ·rw[h2,h1];exact⟨rfl,.inr ⟨rfl,rfl⟩⟩
   ·rw[h2];exact⟨rfl,.inl ⟨h1,rfl⟩⟩
  have hsum:((colF g 2).map ValueD.N).sum=(col.map ValueD.N).sum:=by
   rw[hc2,sum_filter _ _ _ (fun v hv hb=>?_),sum_map_N,hcol,← sms]
   ·refine congrArg List.sum (List.map_congr_left fun p hp=>(hone p hp).1)
   ·obtain⟨p,hp,rfl⟩:=List.mem_map.1 hv
    rcases (hone p hp).2 with ⟨_,h⟩ | ⟨_,h⟩
    ·rw[h] at hb;cases hb
    ·rw[h];rfl
  have hmem:∀v∈colF g 2,∃p∈P,v=(sumF (colF p.2 c.toNat)).1∧v.Kind≠0:=fun v hv=>by
   rw[hc2] at hv
   obtain⟨h1,h2⟩:=List.mem_filter.1 hv
   obtain⟨p,hp,rfl⟩:=List.mem_map.1 h1
   exact⟨p,hp,rfl,of_decide_eq_true h2⟩
  have hlast:=(sumF_ok hcl k3).2
  rw[sumF_of (by have:=colF_len g 2;omega) (fun v hv=>by
   obtain⟨p,hp,rfl,hk⟩:=hmem v hv
   rcases (hone p hp).2 with ⟨_,h⟩ | ⟨_,h⟩
   ·exact h
   ·rw[h] at hk;exact absurd rfl hk) (by
   rw[hsum]
   rcases hlast with ⟨h,_⟩ | ⟨_,_,h⟩
   ·rw[h];decide
   ·exact h),hsum]
  rcases hlast with ⟨h1,h2⟩ | ⟨h1,h2,_⟩
  ·rw[h2,if_pos]
   cases hgc:colF g 2 with
   | nil=>rfl
   | cons v t=>
    obtain⟨p,hp,rfl,hk⟩:=hmem v (by rw[hgc];exact List.mem_cons_self)
    rcases (hone p hp).2 with ⟨h,_⟩ | ⟨_,h⟩
    ·obtain⟨x,hx⟩:=List.exists_mem_of_ne_nil _ h
     have:=hin p hp x hx
     rw[h1] at this;cases this
    ·rw[h] at hk;exact absurd rfl hk
  ·rw[h2,if_neg]
   intro e
   obtain⟨x,hx⟩:=List.exists_mem_of_ne_nil _ h1
   obtain⟨p,hp,hm⟩:=hout x hx
   rcases (hone p hp).2 with ⟨_,h⟩ | ⟨h,_⟩
   ·have:(sumF (colF p.2 c.toNat)).1∈colF g 2:=by
     rw[hc2]
     exact List.mem_filter.2 ⟨List.mem_map.2 ⟨p,hp,rfl⟩,decide_eq_true (by rw[h];decide)⟩
    rw[e] at this;cases this
   ·rw[h] at hm;cases hm
 have e3:minF (colF g 3)=minF col:=by
  rw[colG 2 (by decide),minF_least,minF_least,← least_parts ordV_up hkd hin hout]
  refine congrArg (leastF vOrd) (congrArg (List.filter _) (List.map_congr_left fun p _=>minF_least _))
 have e4:maxF (colF g 4)=maxF col:=by
  rw[colG 3 (by decide),maxF_least,maxF_least,← least_parts ordV_down hkd hin hout]
  refine congrArg (leastF _) (congrArg (List.filter _) (List.map_congr_left fun p _=>maxF_least _))
 show groupF (P.map fun p=>p.1++told4 (colF p.2 c.toNat)) [] aggsW=([[]++told4 (colF l c.toNat)],0)∧∀r∈(P.map fun p=>p.1++told4 (colF p.2 c.toNat)),∀v∈r,OkN v
 rw[← hg,← hcol]
 refine⟨groupF_of ?_ ?_ ?_,fun r hr=>(hgr r hr).2⟩
 ·exact rowsChk_ok.2 ⟨by omega,fun r hr=>⟨by have:=(hgr r hr).1;omega,by rw[hgw];exact (hgr r hr).1,vChkAll_ok.2 fun v hv=>((hgr r hr).2 v hv).1⟩⟩
 ·have hp:∀k:Int,0≤k∧k<5→placesF g [k]=0:=fun k hk=>placesF_all hgw fun x hx=>by rw[List.mem_singleton.1 hx];exact hk
  unfold grpG
  rw[if_neg (by decide),if_neg (by decide),if_neg (show ¬placesF g []≠0 from fun h=>h rfl)]
  simp only[aggE,hp 1 (by decide),hp 2 (by decide),hp 3 (by decide),hp 4 (by decide)]
  simp
 ·rw[partsF_nil,mapX,rowPW (p:=([],g)) (by rw[e1]) (by rw[e2]),mapX]
  show Except.ok [[]++[(sumF (colF g 1)).1,(sumF (colF g 2)).1,minF (colF g 3),maxF (colF g 4)]]=_
  rw[e1,e2,e3,e4]
  rfl
end
section
open Go.RowKit K
set_option maxRecDepth 100000
set_option maxRecDepth 100000
theorem okRws_text {l:List RowT} (h:okRws l):∀r∈l,∀v∈r,okText v.S:=fun r hr v hv=>((h.2 r hr).2 v hv).2.2
theorem okInts_len {l:List Int} (h:okSl (Tryz.prog.bytesOf 3) okInt l):l.length≤140737488355328:=by
 have h1:=h.1
 rw[show Tryz.prog.bytesOf 3=8 by kernel_rfl] at h1
 omega
theorem okAggs_len {l:List AggD} (h:okSl (Tryz.prog.bytesOf 32) AggD.ok l):l.length≤140737488355328:=by
 have h1:=h.1
 rw[show Tryz.prog.bytesOf 32=16 by kernel_rfl] at h1
 omega
theorem law_GroupTells (l:List RowT) (hl:okRws l) (by_:List Int) (hb:okSl (Tryz.prog.bytesOf 3) okInt by_) (aggs:List AggD) (ha:okSl (Tryz.prog.bytesOf 32) AggD.ok aggs):Pure Tryz.prog 3 [rwsV l,slV 1 iC by_,slV 2 AggD.c aggs] (pBool true):=by
 have p1:=p_Group l (okRws_row hl) (okRws_in hl) by_ aggs
 have p2:=p_groupof l (okRws_row hl) (okRws_in hl) (okRws_text hl) by_ aggs (okInts_len hb) (okAggs_len ha)
 have s1:=same_small (groupF_small l by_ aggs)
 refine pure_of Tryz.func3 (by rfl) rfl (by kernel_rfl) (by rfl) ?_
 ((conv=>whnf);repeat' ((first|(with_reducible first|apply a_|apply b_|apply c_)|((with_reducible first|apply d_|apply e_|apply f_|apply g_);focus first|omega|(simp only[q_]<;>omega))|((with_reducible first|apply i_|apply h_);focus first|omega|(simp only[q_]<;>omega))|((with_reducible apply h_);focus first|decide|kernel_rfl)|refine s_ (by decide) ?_|refine t_ (by decide) ?_|refine r_ p_bagbegun rfl ?_|refine r_ p1 rfl ?_|refine r_ p2 rfl ?_|refine r_ s1 rfl ?_|with_reducible first|apply l_|apply m_|apply n_|apply o_|refine p_ (fun _=>?_) (fun _=>?_))<;>(conv=>whnf)))
 all_goals first|exact Ret.bool rfl | (exact Ret.bool (by simp)) | skip
theorem law_GroupDistinct (l:List RowT) (hl:okRws l):Pure Tryz.prog 6 [rwsV l] (pBool true):=by
 have hml:(l.map rowC).length=l.length:=List.length_map _
 have pc:=p_bagcheck l
 have pw:=p_widthR l (okRws_row hl)
 refine pure_of Tryz.func6 (by rfl) rfl (by kernel_rfl) (by rfl) ?_
 by_cases h:rowsChk l=0∧0<widthF l
 ·obtain⟨h1,h2⟩:=h
  obtain⟨h40,h8⟩:=rowsChk_ok.1 h1
  have hl0:0<l.length:=by
   cases l with
   | nil=>exact absurd h2 (Nat.lt_irrefl 0)
   | cons r l=>exact Nat.zero_lt_succ _
  have hm0:(l[0].map ValueD.c).length=l[0].length:=List.length_map _
  have hw0:=width_get hl0
  have hw8:=(h8 _ (List.getElem_mem hl0)).1
  have p1:=p_Group l (okRws_row hl) (okRws_in hl) (allC (widthF l)) []
  have hd:distF l=(distK [] l,0):=if_neg (not_not_intro h1)
  rw[group_all h1 h2] at p1
  have p2:=p_Distinct l (okRws_in hl)
  rw[hd,distinct_ref h1 (okRws_in hl)] at p2
  have hdl:=distR_len l l.length
  rw[h1] at pc
  have s1:Pure Tryz.prog 10 [rwsV (distR l l.length),rwsV (distR l l.length)] (pBool true):=same_small ⟨by omega,fun r hr=>by
   rw[← distinct_ref h1 (okRws_in hl)] at hr
   have:=(h8 r (distF_mem hr)).1
   omega⟩
  ((conv=>whnf);repeat' ((first|(with_reducible first|apply a_|apply b_|apply c_)|((with_reducible first|apply d_|apply e_|apply f_|apply g_);focus first|omega|(simp only[q_]<;>omega))|((with_reducible first|apply i_|apply h_);focus first|omega|(simp only[q_]<;>omega))|((with_reducible apply h_);focus first|decide|kernel_rfl)|refine s_ (by decide) ?_|refine t_ (by decide) ?_|refine r_ pc rfl ?_|refine r_ pw rfl ?_|refine r_ p_bagbegun rfl ?_|with_reducible first|apply l_|apply m_|apply n_|apply o_|refine p_ (fun _=>?_) (fun _=>?_))<;>(conv=>whnf)))
  all_goals first | (exfalso;omega) | skip
  refine LoopC.mk Nat (fun k=>[(0,rwsV l),(3,.d (.app 160 3 1 ((allC k).map iC))),(4,pInt .i64 (k:Int))]) (fun _=>[(160,.tail 3 1)]) [160] (fun k=>k≤widthF l) (fun k=>widthF l - k) 0 (Nat.zero_le _) ?start ?round
  case start=>refine⟨[],?_,?_,?_,?_⟩<;>repeat' (first|exact rfl|exact trivial|exact Or.inl rfl|exact PLe.int (by simp) | exact Nat.zero_lt_succ _|refine And.intro ?_ ?_)
  case round=>
   intro k hk
   have hk:k≤widthF l:=hk
   have hkl:((allC k).map iC).length=k:=by unfold allC;rw[List.length_map,List.length_map,List.length_range]
   by_cases q:k<widthF l
   ·have hs:(allC (k+1)).map iC=(allC k).map iC++[iC (k:Int)]:=by
     unfold allC
     rw[List.range_succ,List.map_append,List.map_append];rfl
    ((conv=>whnf);repeat' ((first|(with_reducible first|apply a_|apply b_|apply c_)|((with_reducible first|apply d_|apply e_|apply f_|apply g_);focus first|omega|(simp only[q_]<;>omega))|((with_reducible first|apply i_|apply h_);focus first|omega|(simp only[q_]<;>omega))|((with_reducible apply h_);focus first|decide|kernel_rfl)|refine s_ (by decide) ?_|refine t_ (by decide) ?_|(refine Idx.mapI (f:=rowC) 0 rfl hl0 ?_)|(refine Need.by 8 rfl (by simp only[hkl,List.length_singleton];omega) ?_)|with_reducible first|apply l_|apply m_|apply n_|apply o_|refine p_ (fun _=>?_) (fun _=>?_))<;>(conv=>whnf)))
    all_goals first | (exfalso;omega) | skip
    exact⟨k+1,q,by omega,[(160,30)],rfl,rfl,⟨.inl rfl,⟨rfl,rfl,rfl,rfl,hs.symm⟩,PLe.int (by omega),trivial⟩,⟨rfl,kle_of rfl rfl ⟨rfl,rfl⟩⟩,trivial⟩
   ·obtain rfl:k=widthF l:=by omega
    have p1:=p1.le (args':=[rwsV l,slV 1 iC (allC (widthF l)),.d (.c (.v (.slice none 0 0)))]) ⟨.inl rfl,.inl rfl,.inr ⟨⟨2,rfl⟩,.inl rfl⟩,rfl⟩
    ((conv=>whnf);repeat' ((first|(with_reducible first|apply a_|apply b_|apply c_)|((with_reducible first|apply d_|apply e_|apply f_|apply g_);focus first|omega|(simp only[q_]<;>omega))|((with_reducible first|apply i_|apply h_);focus first|omega|(simp only[q_]<;>omega))|((with_reducible apply h_);focus first|decide|kernel_rfl)|refine s_ (by decide) ?_|refine t_ (by decide) ?_|(refine Idx.mapI (f:=rowC) 0 rfl hl0 ?_)|refine r_ p1 rfl ?_|refine r_ p2 rfl ?_|refine r_ s1 rfl ?_|with_reducible first|apply l_|apply m_|apply n_|apply o_|refine p_ (fun _=>?_) (fun _=>?_))<;>(conv=>whnf)))
    all_goals first|exact Ret.bool rfl | (exfalso;omega) | (exact Ret.bool (by simp)) | skip
 ·((conv=>whnf);repeat' ((first|(with_reducible first|apply a_|apply b_|apply c_)|((with_reducible first|apply d_|apply e_|apply f_|apply g_);focus first|omega|(simp only[q_]<;>omega))|((with_reducible first|apply i_|apply h_);focus first|omega|(simp only[q_]<;>omega))|((with_reducible apply h_);focus first|decide|kernel_rfl)|refine s_ (by decide) ?_|refine t_ (by decide) ?_|refine r_ pc rfl ?_|refine r_ pw rfl ?_|refine r_ p_bagbegun rfl ?_|with_reducible first|apply l_|apply m_|apply n_|apply o_|refine p_ (fun _=>?_) (fun _=>?_))<;>(conv=>whnf)))
  all_goals first|exact Ret.bool rfl | (exfalso;omega) | skip
theorem cutK (p:PartD) {n:Nat} (h:p.1.length=n) (v:ValueD):List.take ((n:Int).toNat - (0:Int).toNat) (List.drop (0:Int).toNat ((p.1++[v]).map ValueD.c))=p.1.map ValueD.c:=by
 rw[Int.toNat_natCast,show (0:Int).toNat=0 from rfl,List.drop_zero,Nat.sub_zero,← List.map_take,List.take_left' h]
def sumK (P:List PartD) (i:Nat):Int:=((P.take i).map fun p=>(p.2.length:Int)).sum
theorem sumK_succ {P:List PartD} {i:Nat} (h:i<P.length):sumK P (i+1)=sumK P i+(P[i].2.length:Int):=by
 unfold sumK
 rw[take_snoc h,List.map_append,List.sum_append,List.map_cons,List.map_nil,List.sum_cons,List.sum_nil,Int.add_zero]
set_option maxHeartbeats 1000000 in
theorem law_GroupCounts (l:List RowT) (hl:okRws l) (by_:List Int) (hb:okSl (Tryz.prog.bytesOf 3) okInt by_):Pure Tryz.prog 4 [rwsV l,slV 1 iC by_] (pBool true):=by
 have hml:(l.map rowC).length=l.length:=List.length_map _
 have hmb:(by_.map iC).length=by_.length:=List.length_map _
 have p1:=p_Group l (okRws_row hl) (okRws_in hl) by_ [cntA]
 refine pure_of Tryz.func4 (by rfl) rfl (by kernel_rfl) (by rfl) ?_
 by_cases h:(groupF l by_ [cntA]).2=0
 ·obtain⟨h1,h2,_⟩:=groupF_ok h
  rw[group_cnt h] at p1
  have h40:=(rowsChk_ok.1 h1).1
  have h8:=grpG_len h2
  have hP40:=parts_40 (by_:=by_) h40
  have hkeys:=parts_keys by_ l
  have hsub:=parts_sub by_ l
  have hnd:=parts_nodup by_ l
  have hsum:=parts_sum (φ:=fun rows=>(rows.length:Int)) rfl (fun rows r=>by simp) by_ l
  obtain⟨P,hP⟩:∃P,P=partsF by_ l:=⟨_,rfl⟩
  rw[← hP] at p1 hP40 hkeys hsub hnd hsum
  have hmP:((P.map fun p=>p.1++[cntV p]).map rowC).length=P.length:=by rw[List.length_map,List.length_map]
  have hend:sumK P P.length=(l.length:Int):=by unfold sumK;rw[List.take_length];exact hsum
  ((conv=>whnf);repeat' ((first|(with_reducible first|apply a_|apply b_|apply c_)|((with_reducible first|apply d_|apply e_|apply f_|apply g_);focus first|omega|(simp only[q_]<;>omega))|((with_reducible first|apply i_|apply h_);focus first|omega|(simp only[q_]<;>omega))|((with_reducible apply h_);focus first|decide|kernel_rfl)|refine s_ (by decide) ?_|refine t_ (by decide) ?_|refine r_ p1 rfl ?_|refine r_ p_bagbegun rfl ?_|with_reducible first|apply l_|apply m_|apply n_|apply o_|refine p_ (fun _=>?_) (fun _=>?_))<;>(conv=>whnf)))
  all_goals first | (exfalso;omega) | skip
  refine LoopC.mk (Nat×Int) (fun s=>[(0,rwsV l),(1,slV 1 iC by_),(5,rwsV (P.map fun p=>p.1++[cntV p])),(7,pInt .i64 s.2),(8,pInt .i64 (s.1:Int))]) (fun _=>[]) [] (fun s=>s.1≤P.length∧s.2=sumK P s.1∧0≤s.2∧s.2≤40*(s.1:Int)) (fun s=>P.length - s.1) (0,0) ⟨Nat.zero_le _,rfl,Int.le_refl _,by simp⟩ ?start ?round
  case start=>exact⟨[],rfl,rfl,⟨.inl rfl,.inl rfl,.inl rfl,.inl rfl,PLe.int (by simp),trivial⟩,trivial⟩
  case round=>
   rintro⟨i,n⟩ ⟨hi,hn,hn0,hn1⟩
   have hi:i≤P.length:=hi
   have hn:n=sumK P i:=hn
   have hn0:0≤n:=hn0
   have hn1:n≤40*(i:Int):=hn1
   by_cases q:i<P.length
   ·have hg:((P.map fun p=>p.1++[cntV p]).map rowC)[((i:Nat):Int).toNat]? = some (rowC (P[i].1++[cntV P[i]])):=by
     rw[Int.toNat_natCast,List.getElem?_map,List.getElem?_map,List.getElem?_eq_getElem q];rfl
    have hki:=hkeys _ (List.getElem_mem q)
    have hrl:((P[i].1++[cntV P[i]]).map ValueD.c).length=by_.length+1:=by rw[List.length_map,List.length_append,hki];rfl
    have hix:((P[i].1++[cntV P[i]]).map ValueD.c)[(((by_.map iC).length:Nat):Int).toNat]? = some (cntV P[i]).c:=by
     rw[Int.toNat_natCast,hmb,List.getElem?_map,List.getElem?_append_right (by omega),hki,Nat.sub_self];rfl
    have hpl:=(hsub _ (List.getElem_mem q)).2
    have hs1:=sumK_succ q
    ((conv=>whnf);repeat' ((first|(with_reducible first|apply a_|apply b_|apply c_)|((with_reducible first|apply d_|apply e_|apply f_|apply g_);focus first|omega|(simp only[q_]<;>omega))|((with_reducible first|apply i_|apply h_);focus first|omega|(simp only[q_]<;>omega))|((with_reducible apply h_);focus first|decide|kernel_rfl)|refine s_ (by decide) ?_|refine t_ (by decide) ?_|(refine Idx.mk _ (by omega) hg ?_)|with_reducible first|apply l_|apply m_|apply n_|apply o_|refine p_ (fun _=>?_) (fun _=>?_))<;>(conv=>whnf)))
    all_goals first | (exfalso;omega) | skip
    refine LoopC.mk Nat (fun k=>[(0,rwsV l),(1,slV 1 iC by_),(5,rwsV (P.map fun p=>p.1++[cntV p])),(7,pInt .i64 n),(8,pInt .i64 (i:Int)),(9,pInt .i64 (k:Int))]) (fun _=>[]) [] (fun k=>k≤i) (fun k=>i - k) 0 (Nat.zero_le _) ?start2 ?round2
    case start2=>exact⟨[],rfl,rfl,⟨.inl rfl,.inl rfl,.inl rfl,.inl rfl,.inl rfl,PLe.int (by simp),trivial⟩,trivial⟩
    case round2=>
     intro k hk
     have hk:k≤i:=hk
     by_cases qk:k<i
     ·have qP:k<P.length:=by omega
      have hgk:((P.map fun p=>p.1++[cntV p]).map rowC)[((k:Nat):Int).toNat]? = some (rowC (P[k].1++[cntV P[k]])):=by
       rw[Int.toNat_natCast,List.getElem?_map,List.getElem?_map,List.getElem?_eq_getElem qP];rfl
      have hkk:=hkeys _ (List.getElem_mem qP)
      have hrk:((P[k].1++[cntV P[k]]).map ValueD.c).length=by_.length+1:=by rw[List.length_map,List.length_append,hkk];rfl
      have hne:listEqB ValueD.eqB P[i].1 P[k].1=false:=by
       rw[Bool.eq_false_iff]
       intro e
       have e:=(listEqB_iff ValueD.eqB_iff _ _).1 e
       have:=(List.getElem_inj (i:=i) (j:=k) (h₀:=by rw[List.length_map];exact q) (h₁:=by rw[List.length_map];exact qP) hnd).1 (by rw[List.getElem_map,List.getElem_map];exact e)
       omega
      have sr:Pure Tryz.prog 11 [.d (.c (.sl 3 (List.take ((((by_.map iC).length:Nat):Int).toNat - (0:Int).toNat) (List.drop (0:Int).toNat ((P[i].1++[cntV P[i]]).map ValueD.c))))),.d (.c (.sl 3 (List.take ((((by_.map iC).length:Nat):Int).toNat - (0:Int).toNat) (List.drop (0:Int).toNat ((P[k].1++[cntV P[k]]).map ValueD.c)))))] (pBool false):=by
       rw[cutK P[i] (by rw[hmb];exact hki),cutK P[k] (by rw[hmb];exact hkk),← hne]
       exact p_samerow P[i].1 P[k].1 (by omega)
      ((conv=>whnf);repeat' ((first|(with_reducible first|apply a_|apply b_|apply c_)|((with_reducible first|apply d_|apply e_|apply f_|apply g_);focus first|omega|(simp only[q_]<;>omega))|((with_reducible first|apply i_|apply h_);focus first|omega|(simp only[q_]<;>omega))|((with_reducible apply h_);focus first|decide|kernel_rfl)|refine s_ (by decide) ?_|refine t_ (by decide) ?_|(first|refine Idx.mk _ (by omega) hg ?_|refine Idx.mk _ (by omega) hgk ?_)|refine r_ sr rfl ?_|with_reducible first|apply l_|apply m_|apply n_|apply o_|refine p_ (fun _=>?_) (fun _=>?_))<;>(conv=>whnf)))
      all_goals first | (exfalso;omega) | skip
      exact⟨k+1,qk,by omega,[],rfl,rfl,⟨.inl rfl,.inl rfl,.inl rfl,.inl rfl,.inl rfl,PLe.int (by omega),trivial⟩,trivial⟩
     ·((conv=>whnf);repeat' ((first|(with_reducible first|apply a_|apply b_|apply c_)|((with_reducible first|apply d_|apply e_|apply f_|apply g_);focus first|omega|(simp only[q_]<;>omega))|((with_reducible first|apply i_|apply h_);focus first|omega|(simp only[q_]<;>omega))|((with_reducible apply h_);focus first|decide|kernel_rfl)|refine s_ (by decide) ?_|refine t_ (by decide) ?_|(first|refine Idx.mk _ (by omega) hg ?_|refine Idx.mk _ (by omega) hix ?_)|with_reducible first|apply l_|apply m_|apply n_|apply o_|refine p_ (fun _=>?_) (fun _=>?_))<;>(conv=>whnf)))
      all_goals first | (exfalso;omega) | skip
      exact⟨(i+1,n+(P[i].2.length:Int)),⟨q,by show _=sumK P (i+1);rw[hs1,hn],by show 0≤n+_;omega,by show n+_≤40*((i+1:Nat):Int);omega⟩,by show P.length - (i+1)<P.length - i;omega,[],rfl,rfl,⟨.inl rfl,.inl rfl,.inl rfl,.inl rfl,PLe.int (by show _=((i+1:Nat):Int);omega),trivial⟩,trivial⟩
   ·obtain rfl:i=P.length:=by omega
    rw[hend] at hn
    ((conv=>whnf);repeat' ((first|(with_reducible first|apply a_|apply b_|apply c_)|((with_reducible first|apply d_|apply e_|apply f_|apply g_);focus first|omega|(simp only[q_]<;>omega))|((with_reducible first|apply i_|apply h_);focus first|omega|(simp only[q_]<;>omega))|((with_reducible apply h_);focus first|decide|kernel_rfl)|refine s_ (by decide) ?_|refine t_ (by decide) ?_|with_reducible first|apply l_|apply m_|apply n_|apply o_|refine p_ (fun _=>?_) (fun _=>?_))<;>(conv=>whnf)))
    all_goals first|exact Ret.bool rfl | (exfalso;omega) | (exact Ret.bool (by simp;omega)) | skip
 ·rw[groupF_no h] at p1
  ((conv=>whnf);repeat' ((first|(with_reducible first|apply a_|apply b_|apply c_)|((with_reducible first|apply d_|apply e_|apply f_|apply g_);focus first|omega|(simp only[q_]<;>omega))|((with_reducible first|apply i_|apply h_);focus first|omega|(simp only[q_]<;>omega))|((with_reducible apply h_);focus first|decide|kernel_rfl)|refine s_ (by decide) ?_|refine t_ (by decide) ?_|refine r_ p1 rfl ?_|refine r_ p_bagbegun rfl ?_|with_reducible first|apply l_|apply m_|apply n_|apply o_|refine p_ (fun _=>?_) (fun _=>?_))<;>(conv=>whnf)))
  all_goals first|exact Ret.bool rfl | (exfalso;omega) | (exact Ret.bool (by simp)) | skip
set_option maxHeartbeats 1000000 in
theorem law_GroupWhole (l:List RowT) (hl:okRws l) (c:Int) (wc:-9223372036854775808≤c∧c≤9223372036854775807) (b:Int) (wb:-9223372036854775808≤b∧b≤9223372036854775807):Pure Tryz.prog 5 [rwsV l,pInt .i64 c,pInt .i64 b] (pBool true):=by
 have hml:(l.map rowC).length=l.length:=List.length_map _
 have p1:=(p_Group l (okRws_row hl) (okRws_in hl) [] (aggs4 c)).le (args':=[rwsV l,.d (.c (.v (.slice none 0 0))),slV 2 AggD.c (aggs4 c)]) ⟨.inl rfl,.inr ⟨⟨1,rfl⟩,.inl rfl⟩,.inl rfl,rfl⟩
 have p2:=p_Group l (okRws_row hl) (okRws_in hl) [b] (aggs4 c)
 have n1:=fun h=>groupF_no (l:=l) (by_:=[]) (aggs:=aggs4 c) h
 have n2:=fun h=>groupF_no (l:=l) (by_:=[b]) (aggs:=aggs4 c) h
 have s1:=same_small (groupF_small l [] (aggs4 c))
 have hg5:=groupF_small l [b] (aggs4 c)
 obtain⟨F,hF⟩:∃F,F=groupF l [] (aggs4 c):=⟨_,rfl⟩
 obtain⟨G,hG⟩:∃G,G=groupF l [b] (aggs4 c):=⟨_,rfl⟩
 have hw:=fun h1 h2 h3 h4=>group_whole (l:=l) (c:=c) (b:=b) h1 h2 (okRws_in hl) h3 h4
 rw[← hF] at p1 n1 s1 hw
 rw[← hG] at p2 n2 hg5 hw
 refine pure_of Tryz.func5 (by rfl) rfl (by kernel_rfl) (by rfl) ?_
 by_cases h1:F.2=0
 ·by_cases h2:G.2=0
  ·by_cases h3:l.length=0∨c<0
   ·((conv=>whnf);repeat' ((first|(with_reducible first|apply a_|apply b_|apply c_)|((with_reducible first|apply d_|apply e_|apply f_|apply g_);focus first|omega|(simp only[q_]<;>omega))|((with_reducible first|apply i_|apply h_);focus first|omega|(simp only[q_]<;>omega))|((with_reducible apply h_);focus first|decide|kernel_rfl)|refine s_ (by decide) ?_|refine t_ (by decide) ?_|refine r_ p1 rfl ?_|refine r_ p2 rfl ?_|refine r_ p_bagbegun rfl ?_|with_reducible first|apply l_|apply m_|apply n_|apply o_|refine p_ (fun _=>?_) (fun _=>?_))<;>(conv=>whnf)))
    all_goals first|exact Ret.bool rfl | (exfalso;omega) | (exact Ret.bool (by simp)) | skip
   ·obtain⟨e,hok⟩:=hw (by omega) (fun h=>h3 (.inl (by rw[h];rfl))) h1 h2
    have p3:=(p_Group G.1 (fun r hr=>by have:=hg5.2 r hr;omega) (fun r hr v hv=>(hok r hr v hv).2) [] aggsW).le (args':=[rwsV G.1,.d (.c (.v (.slice none 0 0))),slV 2 AggD.c aggsW]) ⟨.inl rfl,.inr ⟨⟨1,rfl⟩,.inl rfl⟩,.inl rfl,rfl⟩
    rw[e] at p3
    ((conv=>whnf);repeat' ((first|(with_reducible first|apply a_|apply b_|apply c_)|((with_reducible first|apply d_|apply e_|apply f_|apply g_);focus first|omega|(simp only[q_]<;>omega))|((with_reducible first|apply i_|apply h_);focus first|omega|(simp only[q_]<;>omega))|((with_reducible apply h_);focus first|decide|kernel_rfl)|refine s_ (by decide) ?_|refine t_ (by decide) ?_|refine r_ p1 rfl ?_|refine r_ p2 rfl ?_|refine r_ p3 rfl ?_|refine r_ s1 rfl ?_|refine r_ p_bagbegun rfl ?_|with_reducible first|apply l_|apply m_|apply n_|apply o_|refine p_ (fun _=>?_) (fun _=>?_))<;>(conv=>whnf)))
    all_goals first|exact Ret.bool rfl | (exfalso;omega) | (exact Ret.bool (by simp)) | skip
  ·have h4:(G.1.map rowC).length=0:=by rw[n2 h2];rfl
   ((conv=>whnf);repeat' ((first|(with_reducible first|apply a_|apply b_|apply c_)|((with_reducible first|apply d_|apply e_|apply f_|apply g_);focus first|omega|(simp only[q_]<;>omega))|((with_reducible first|apply i_|apply h_);focus first|omega|(simp only[q_]<;>omega))|((with_reducible apply h_);focus first|decide|kernel_rfl)|refine s_ (by decide) ?_|refine t_ (by decide) ?_|refine r_ p1 rfl ?_|refine r_ p2 rfl ?_|refine r_ p_bagbegun rfl ?_|with_reducible first|apply l_|apply m_|apply n_|apply o_|refine p_ (fun _=>?_) (fun _=>?_))<;>(conv=>whnf)))
   all_goals first|exact Ret.bool rfl | (exfalso;omega) | (exact Ret.bool (by simp[n2 h2])) | skip
 ·have h5:(F.1.map rowC).length=0:=by rw[n1 h1];rfl
  by_cases h2:G.2=0
  ·((conv=>whnf);repeat' ((first|(with_reducible first|apply a_|apply b_|apply c_)|((with_reducible first|apply d_|apply e_|apply f_|apply g_);focus first|omega|(simp only[q_]<;>omega))|((with_reducible first|apply i_|apply h_);focus first|omega|(simp only[q_]<;>omega))|((with_reducible apply h_);focus first|decide|kernel_rfl)|refine s_ (by decide) ?_|refine t_ (by decide) ?_|refine r_ p1 rfl ?_|refine r_ p2 rfl ?_|refine r_ p_bagbegun rfl ?_|with_reducible first|apply l_|apply m_|apply n_|apply o_|refine p_ (fun _=>?_) (fun _=>?_))<;>(conv=>whnf)))
   all_goals first|exact Ret.bool rfl | (exfalso;omega) | (exact Ret.bool (by simp)) | skip
  ·have h4:(G.1.map rowC).length=0:=by rw[n2 h2];rfl
   ((conv=>whnf);repeat' ((first|(with_reducible first|apply a_|apply b_|apply c_)|((with_reducible first|apply d_|apply e_|apply f_|apply g_);focus first|omega|(simp only[q_]<;>omega))|((with_reducible first|apply i_|apply h_);focus first|omega|(simp only[q_]<;>omega))|((with_reducible apply h_);focus first|decide|kernel_rfl)|refine s_ (by decide) ?_|refine t_ (by decide) ?_|refine r_ p1 rfl ?_|refine r_ p2 rfl ?_|refine r_ p_bagbegun rfl ?_|with_reducible first|apply l_|apply m_|apply n_|apply o_|refine p_ (fun _=>?_) (fun _=>?_))<;>(conv=>whnf)))
   all_goals first|exact Ret.bool rfl | (exfalso;omega) | (exact Ret.bool (by simp[n2 h2])) | skip
end
end Go.Proofs.YtegpnpdnanfhbaaGreatDoor.Pm
