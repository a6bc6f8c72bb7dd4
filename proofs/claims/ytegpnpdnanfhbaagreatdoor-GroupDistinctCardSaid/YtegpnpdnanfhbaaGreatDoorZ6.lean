/- Parts of the proof, one behind the other: PxRaw PxSplit PbProj PbIns PbMrg PbGrpP PbTell PbGrpG PmRange PbPair PmDefer PbRng PbCat PbRef3 PbJoin PbSort PbFilter PdSet PrNum PrRead PrRow PrReads PmBuild PrWrite PrOrd. Conditions: none beyond what each theorem says. -/
import Derived.RangeFuncNested
import Derived.RangeFuncBound
import Derived.RangeFuncCalls
import Derived.RangeFuncLeaves
import Derived.RangeFuncRecord
import Derived.RangeFuncBox
import Derived.OwnWalkIn
import Derived.TacticsInMore
import Derived.LoopNIn
import Derived.LoopIn
import Derived.Test.YtegpnpdnanfhbaaGreatDoorYSlice
import Derived.Recover
import Derived.Lib.AppendZerosOnto
import Derived.Test.YtegpnpdnanfhbaaGreatDoorYNumBegun
import Derived.Test.YtegpnpdnanfhbaaGreatDoorYNumBack
import Derived.Lib.Hide
import Derived.Test.YtegpnpdnanfhbaaGreatDoorZ5
set_option linter.unusedVariables false
set_option linter.unusedSimpArgs false
namespace Go.Proofs.YtegpnpdnanfhbaaGreatDoor.Pm
section
open Go.RowKit K
set_option maxRecDepth 100000
theorem look_sc (cols:List (List UInt8)) (row:List ValueD):vget (scM cols row)=lookC cols row:=funext fun s=>vget_scM cols row s
theorem lookC_mem:∀(cols:List (List UInt8)) (row:List ValueD) {s:List UInt8} {v:ValueD},lookC cols row s=some v→v∈row
 | [],row,s,v,h=>by cases row<;>cases h
 | _::_,[],s,v,h=>by cases h
 | c::cs,x::xs,s,v,h=>by
  unfold lookC at h
  split at h
  ·cases h;exact List.mem_cons_self ..
  ·exact List.mem_cons_of_mem _ (lookC_mem cs xs h)
theorem look_ok {cols:List (List UInt8)} {row:List ValueD} (h:∀v∈row,RV v):LookOk (lookC cols row):=fun s v hv=>h v (lookC_mem cols row hv)
def NIn (l:List NodeD):Prop:=∀n∈l,alF n=0∧WholeP.In64 n.V.N
theorem p_raw (l:List NodeD) (hl:l.length≤1000) (hn:NIn l) (cols:List (List UInt8)) (row:List ValueD) (hc:cols.length=row.length) (hcl:cols.length≤1000000) (hr:∀v∈row,RV v) :
  Pure Tryz.prog 76 [slV 6 NodeD.c l,slV 1 eText cols,slV 3 ValueD.c row] (eVal (walkR (nodF (lookC cols row)) l)):=by
 have ps:=s_scoped cols row hc hcl
 have pw:=s_walkv (scM cols row) (by rw[look_sc];exact look_ok hr) l hl hn
 rw[look_sc] at pw
 refine pure_of Tryz.func76 (by rfl) rfl (by kernel_rfl) (by rfl) ?_
 cases hw:walkR (nodF (lookC cols row)) l with
 | ok v=>
  rw[hw] at pw
  ((conv=>whnf);repeat' ((first|(with_reducible first|apply a_|apply b_|apply c_)|((with_reducible first|apply d_|apply e_|apply f_|apply g_);focus first|omega|(simp only[q_]<;>omega))|((with_reducible first|apply i_|apply h_);focus first|omega|(simp only[q_]<;>omega))|((with_reducible apply h_);focus first|decide|kernel_rfl)|refine s_ (by decide) ?_|refine t_ (by decide) ?_|(refine CallP.ret [(NK,11)] _ _ _ _ _ _ _ ps rfl rfl rfl rfl trivial ?_)|(refine CallP.ret [(FK,11)] _ _ _ _ _ _ _ pw rfl rfl rfl rfl ⟨rfl,trivial⟩ ?_)|with_reducible first|apply l_|apply m_|apply n_|apply o_|refine p_ (fun _=>?_) (fun _=>?_))<;>(conv=>whnf)))
  exact Ret.eq rfl
 | error x=>
  rw[hw] at pw
  ((conv=>whnf);repeat' ((first|(with_reducible first|apply a_|apply b_|apply c_)|((with_reducible first|apply d_|apply e_|apply f_|apply g_);focus first|omega|(simp only[q_]<;>omega))|((with_reducible first|apply i_|apply h_);focus first|omega|(simp only[q_]<;>omega))|((with_reducible apply h_);focus first|decide|kernel_rfl)|refine s_ (by decide) ?_|refine t_ (by decide) ?_|(refine CallP.ret [(NK,11)] _ _ _ _ _ _ _ ps rfl rfl rfl rfl trivial ?_)|(refine CallP.ret [(FK,11)] _ _ _ _ _ _ _ pw rfl rfl rfl rfl ⟨rfl,trivial⟩ ?_)|with_reducible first|apply l_|apply m_|apply n_|apply o_|refine p_ (fun _=>?_) (fun _=>?_))<;>(conv=>whnf)))
  exact Ret.eq rfl
def truR (r:Except Int ValueD):Int×Int:=match r with
 | .ok v=>meaV v
 | .error x=>(0,x)
theorem p_rawtruth_of {l:List NodeD} {cols:List (List UInt8)} {row:List ValueD} {r:Except Int ValueD} (hr:∀x,r=.error x→x≠0) (p:Pure Tryz.prog 76 [slV 6 NodeD.c l,slV 1 eText cols,slV 3 ValueD.c row] (eVal r)) :
  Pure Tryz.prog 74 [slV 6 NodeD.c l,slV 1 eText cols,slV 3 ValueD.c row] (.tup [pInt .i64 (truR r).1,pInt .i64 (truR r).2]):=by
 refine pure_of Tryz.func74 (by rfl) rfl (by kernel_rfl) (by rfl) ?_
 cases r with
 | ok v=>
  have pm:=p_meant v
  have p:Pure _ _ _ (.tup [vV v,pInt .i64 0]):=p
  ((conv=>whnf);repeat' ((first|(with_reducible first|apply a_|apply b_|apply c_)|((with_reducible first|apply d_|apply e_|apply f_|apply g_);focus first|omega|(simp only[q_]<;>omega))|((with_reducible first|apply i_|apply h_);focus first|omega|(simp only[q_]<;>omega))|((with_reducible apply h_);focus first|decide|kernel_rfl)|refine s_ (by decide) ?_|refine t_ (by decide) ?_|refine r_ p rfl ?_|refine r_ pm rfl ?_|with_reducible first|apply l_|apply m_|apply n_|apply o_|refine p_ (fun _=>?_) (fun _=>?_))<;>(conv=>whnf)))
  exact Ret.eq rfl
 | error x=>
  have p:Pure _ _ _ (.tup [vV noV,pInt .i64 x]):=p
  have h0:=hr x rfl
  ((conv=>whnf);repeat' ((first|(with_reducible first|apply a_|apply b_|apply c_)|((with_reducible first|apply d_|apply e_|apply f_|apply g_);focus first|omega|(simp only[q_]<;>omega))|((with_reducible first|apply i_|apply h_);focus first|omega|(simp only[q_]<;>omega))|((with_reducible apply h_);focus first|decide|kernel_rfl)|refine s_ (by decide) ?_|refine t_ (by decide) ?_|refine r_ p rfl ?_|with_reducible first|apply l_|apply m_|apply n_|apply o_|refine p_ (fun _=>?_) (fun _=>?_))<;>(conv=>whnf)))
  all_goals first|exact Ret.eq rfl | (exfalso;omega)
def scopeE (e:List NodeD) (cols:List (List UInt8)) (row:List ValueD):Int:=if checkF e≠0 then checkF e else if 8<cols.length then 2 else if cols.length≠row.length then 1 else vChkAll row
noncomputable def evalF (e:List NodeD) (cols:List (List UInt8)) (row:List ValueD):Except Int ValueD:=if scopeE e cols row≠0 then .error (scopeE e cols row) else walkR (nodF (lookC cols row)) e
theorem p_evcheck (e:List NodeD) (hn:∀n∈e,okText n.Name) (cols:List (List UInt8)) (row:List ValueD) (hr:row.length≤140737488355328):Pure Tryz.prog 73 [slV 6 NodeD.c e,slV 1 eText cols,slV 3 ValueD.c row] (pInt .i64 (scopeE e cols row)):=by
 have pe:=p_echeck e hn
 have pc:=p_checkall row hr
 refine pure_of Tryz.func73 (by rfl) rfl (by kernel_rfl) (by rfl) ?_
 unfold scopeE
 by_cases h1:checkF e=0
 ·rw[if_neg (by rw[h1];decide)]
  rw[h1] at pe
  by_cases h2:8<cols.length
  ·rw[if_pos h2]
   ((conv=>whnf);repeat' ((first|(with_reducible first|apply a_|apply b_|apply c_)|((with_reducible first|apply d_|apply e_|apply f_|apply g_);focus first|omega|(simp only[q_]<;>omega))|((with_reducible first|apply i_|apply h_);focus first|omega|(simp only[q_]<;>omega))|((with_reducible apply h_);focus first|decide|kernel_rfl)|refine s_ (by decide) ?_|refine t_ (by decide) ?_|refine r_ pe rfl ?_|with_reducible first|apply l_|apply m_|apply n_|apply o_|refine p_ (fun _=>?_) (fun _=>?_))<;>(conv=>whnf)))
   all_goals first|exact Ret.int rfl | (exfalso;omega)
  ·rw[if_neg h2]
   by_cases h3:cols.length=row.length
   ·rw[if_neg (by omega)]
    ((conv=>whnf);repeat' ((first|(with_reducible first|apply a_|apply b_|apply c_)|((with_reducible first|apply d_|apply e_|apply f_|apply g_);focus first|omega|(simp only[q_]<;>omega))|((with_reducible first|apply i_|apply h_);focus first|omega|(simp only[q_]<;>omega))|((with_reducible apply h_);focus first|decide|kernel_rfl)|refine s_ (by decide) ?_|refine t_ (by decide) ?_|refine r_ pe rfl ?_|refine r_ pc rfl ?_|with_reducible first|apply l_|apply m_|apply n_|apply o_|refine p_ (fun _=>?_) (fun _=>?_))<;>(conv=>whnf)))
    all_goals first|exact Ret.int rfl | (exfalso;omega)
   ·rw[if_pos h3]
    ((conv=>whnf);repeat' ((first|(with_reducible first|apply a_|apply b_|apply c_)|((with_reducible first|apply d_|apply e_|apply f_|apply g_);focus first|omega|(simp only[q_]<;>omega))|((with_reducible first|apply i_|apply h_);focus first|omega|(simp only[q_]<;>omega))|((with_reducible apply h_);focus first|decide|kernel_rfl)|refine s_ (by decide) ?_|refine t_ (by decide) ?_|refine r_ pe rfl ?_|with_reducible first|apply l_|apply m_|apply n_|apply o_|refine p_ (fun _=>?_) (fun _=>?_))<;>(conv=>whnf)))
    all_goals first|exact Ret.int rfl | (exfalso;omega)
 ·rw[if_pos h1]
  ((conv=>whnf);repeat' ((first|(with_reducible first|apply a_|apply b_|apply c_)|((with_reducible first|apply d_|apply e_|apply f_|apply g_);focus first|omega|(simp only[q_]<;>omega))|((with_reducible first|apply i_|apply h_);focus first|omega|(simp only[q_]<;>omega))|((with_reducible apply h_);focus first|decide|kernel_rfl)|refine s_ (by decide) ?_|refine t_ (by decide) ?_|refine r_ pe rfl ?_|with_reducible first|apply l_|apply m_|apply n_|apply o_|refine p_ (fun _=>?_) (fun _=>?_))<;>(conv=>whnf)))
  all_goals first|exact Ret.int rfl | (exfalso;omega)
theorem scope_ok {e:List NodeD} {cols:List (List UInt8)} {row:List ValueD} (h:scopeE e cols row=0):checkF e=0∧cols.length≤8∧cols.length=row.length∧∀v∈row,OkV v:=by
 unfold scopeE at h
 split at h
 ·rename_i q;exact absurd h q
 ·rename_i q
  split at h
  ·cases h
  ·split at h
   ·cases h
   ·exact⟨Decidable.of_not_not q,by omega,by omega,fun v hv=>vChkAll_ok.1 h v hv⟩
theorem check_all {e:List NodeD} (h:checkF e=0):e.length≤60∧∀n∈e,alF n=0:=by
 unfold checkF at h
 split at h
 ·cases h
 ·split at h
  ·rename_i q;exact absurd h q
  ·rename_i q
   exact⟨by omega,chk_all e 0 (Decidable.of_not_not q)⟩
abbrev hNode (n:NodeD):Prop:=okText n.Name∧WholeP.In64 n.V.N
theorem nodF_err {look:Look} {n:NodeD} {k:List ValueD} {x:Int} (h:nodF look n k=.error x):x≠0:=by
 unfold nodF at h
 split at h
 ·cases h
 ·rename_i q;cases h;exact q
theorem walkG_err {α:Type} {f:NodeD→List α→Except Int α} (hf:∀n k x,f n k=.error x→x≠0):∀(l:List NodeD) (st:List α) {x:Int},walkG f st l=.error x→x≠0
 | [],st,x,h=>by cases h
 | n::l,st,x,h=>by
  rw[walkG_cons] at h
  split at h
  ·cases h;decide
  ·split at h
   ·rename_i y hy;cases h;exact hf _ _ _ hy
   ·exact walkG_err hf l _ h
theorem walkR_err {α:Type} {f:NodeD→List α→Except Int α} (hf:∀n k x,f n k=.error x→x≠0) {l:List NodeD} {x:Int} (h:walkR f l=.error x):x≠0:=by
 unfold walkR at h
 split at h
 ·rename_i y hy;cases h;exact walkG_err hf _ _ hy
 ·cases h
 ·cases h;decide
theorem p_eval (e:List NodeD) (hn:∀n∈e,hNode n) (cols:List (List UInt8)) (row:List ValueD) (hr:row.length≤140737488355328) (hv:∀v∈row,WholeP.In64 v.N):Pure Tryz.prog 56 [slV 6 NodeD.c e,slV 1 eText cols,slV 3 ValueD.c row] (eVal (evalF e cols row)):=by
 have pc:=p_evcheck e (fun n h=>(hn n h).1) cols row hr
 refine pure_of Tryz.func56 (by rfl) rfl (by kernel_rfl) (by rfl) ?_
 unfold evalF
 by_cases h:scopeE e cols row=0
 ·rw[if_neg (by rw[h];decide)]
  rw[h] at pc
  obtain⟨h1,h2,h3,h4⟩:=scope_ok h
  obtain⟨h5,h6⟩:=check_all h1
  have pr:=p_raw e (by omega) (fun n hm=>⟨h6 n hm,(hn n hm).2⟩) cols row h3 (by omega) (fun v hm=>⟨h4 v hm,hv v hm⟩)
  cases hw:walkR (nodF (lookC cols row)) e with
  | ok v=>
   rw[hw] at pr
   have pr:Pure _ _ _ (.tup [vV v,pInt .i64 0]):=pr
   ((conv=>whnf);repeat' ((first|(with_reducible first|apply a_|apply b_|apply c_)|((with_reducible first|apply d_|apply e_|apply f_|apply g_);focus first|omega|(simp only[q_]<;>omega))|((with_reducible first|apply i_|apply h_);focus first|omega|(simp only[q_]<;>omega))|((with_reducible apply h_);focus first|decide|kernel_rfl)|refine s_ (by decide) ?_|refine t_ (by decide) ?_|refine r_ pc rfl ?_|refine r_ pr rfl ?_|with_reducible first|apply l_|apply m_|apply n_|apply o_|refine p_ (fun _=>?_) (fun _=>?_))<;>(conv=>whnf)))
   exact Ret.eq rfl
  | error x=>
   rw[hw] at pr
   have pr:Pure _ _ _ (.tup [vV noV,pInt .i64 x]):=pr
   ((conv=>whnf);repeat' ((first|(with_reducible first|apply a_|apply b_|apply c_)|((with_reducible first|apply d_|apply e_|apply f_|apply g_);focus first|omega|(simp only[q_]<;>omega))|((with_reducible first|apply i_|apply h_);focus first|omega|(simp only[q_]<;>omega))|((with_reducible apply h_);focus first|decide|kernel_rfl)|refine s_ (by decide) ?_|refine t_ (by decide) ?_|refine r_ pc rfl ?_|refine r_ pr rfl ?_|with_reducible first|apply l_|apply m_|apply n_|apply o_|refine p_ (fun _=>?_) (fun _=>?_))<;>(conv=>whnf)))
   exact Ret.eq rfl
 ·rw[if_pos h]
  ((conv=>whnf);repeat' ((first|(with_reducible first|apply a_|apply b_|apply c_)|((with_reducible first|apply d_|apply e_|apply f_|apply g_);focus first|omega|(simp only[q_]<;>omega))|((with_reducible first|apply i_|apply h_);focus first|omega|(simp only[q_]<;>omega))|((with_reducible apply h_);focus first|decide|kernel_rfl)|refine s_ (by decide) ?_|refine t_ (by decide) ?_|refine r_ pc rfl ?_|with_reducible first|apply l_|apply m_|apply n_|apply o_|refine p_ (fun _=>?_) (fun _=>?_))<;>(conv=>whnf)))
  all_goals first|exact Ret.eq rfl | (exfalso;omega)
theorem p_truthE (e:List NodeD) (hn:∀n∈e,hNode n) (cols:List (List UInt8)) (row:List ValueD) (hr:row.length≤140737488355328) (hv:∀v∈row,WholeP.In64 v.N):Pure Tryz.prog 52 [slV 6 NodeD.c e,slV 1 eText cols,slV 3 ValueD.c row] (.tup [pInt .i64 (truR (evalF e cols row)).1,pInt .i64 (truR (evalF e cols row)).2]):=by
 have pc:=p_evcheck e (fun n h=>(hn n h).1) cols row hr
 refine pure_of Tryz.func52 (by rfl) rfl (by kernel_rfl) (by rfl) ?_
 unfold evalF
 by_cases h:scopeE e cols row=0
 ·rw[if_neg (by rw[h];decide)]
  rw[h] at pc
  obtain⟨h1,h2,h3,h4⟩:=scope_ok h
  obtain⟨h5,h6⟩:=check_all h1
  have pr:=p_rawtruth_of (r:=walkR (nodF (lookC cols row)) e) (fun x hx=>walkR_err (fun n k x=>nodF_err) hx) (p_raw e (by omega) (fun n hm=>⟨h6 n hm,(hn n hm).2⟩) cols row h3 (by omega) (fun v hm=>⟨h4 v hm,hv v hm⟩))
  ((conv=>whnf);repeat' ((first|(with_reducible first|apply a_|apply b_|apply c_)|((with_reducible first|apply d_|apply e_|apply f_|apply g_);focus first|omega|(simp only[q_]<;>omega))|((with_reducible first|apply i_|apply h_);focus first|omega|(simp only[q_]<;>omega))|((with_reducible apply h_);focus first|decide|kernel_rfl)|refine s_ (by decide) ?_|refine t_ (by decide) ?_|refine r_ pc rfl ?_|refine r_ pr rfl ?_|with_reducible first|apply l_|apply m_|apply n_|apply o_|refine p_ (fun _=>?_) (fun _=>?_))<;>(conv=>whnf)))
  exact Ret.eq rfl
 ·rw[if_pos h]
  ((conv=>whnf);repeat' ((first|(with_reducible first|apply a_|apply b_|apply c_)|((with_reducible first|apply d_|apply e_|apply f_|apply g_);focus first|omega|(simp only[q_]<;>omega))|((with_reducible first|apply i_|apply h_);focus first|omega|(simp only[q_]<;>omega))|((with_reducible apply h_);focus first|decide|kernel_rfl)|refine s_ (by decide) ?_|refine t_ (by decide) ?_|refine r_ pc rfl ?_|with_reducible first|apply l_|apply m_|apply n_|apply o_|refine p_ (fun _=>?_) (fun _=>?_))<;>(conv=>whnf)))
  all_goals first|exact Ret.eq rfl | (exfalso;omega)
end
section
open Go.RowKit K
set_option maxRecDepth 100000
def ek (x:List NodeD):List C:=[.sl 6 (x.map NodeD.c)]
end
section
open Go.RowKit K
set_option maxRecDepth 100000
set_option maxRecDepth 100000
def mapX {α β:Type} (f:α→Except Int β):List α→Except Int (List β)
 | []=>.ok []
 | a::l=>match f a with
  | .error x=>.error x
  | .ok b=>match mapX f l with
   | .error x=>.error x
   | .ok bs=>.ok (b::bs)
theorem mapX_app {α β:Type} {f:α→Except Int β}:∀(l m:List α),mapX f (l++m)=match mapX f l with
  | .error x=>.error x
  | .ok bs=>match mapX f m with
   | .error x=>.error x
   | .ok cs=>.ok (bs++cs)
 | [],m=>by
  rw[List.nil_append,mapX]
  cases mapX f m<;>rfl
 | a::l,m=>by
  rw[List.cons_append,mapX,mapX,mapX_app l m]
  cases f a with
  | error x=>rfl
  | ok b=>
   cases mapX f l with
   | error x=>rfl
   | ok bs=>
    cases mapX f m with
    | error x=>rfl
    | ok cs=>rfl
theorem mapX_len {α β:Type} {f:α→Except Int β}:∀{l:List α} {bs:List β},mapX f l=.ok bs→bs.length=l.length
 | [],bs,h=>by rw[mapX] at h;cases h;rfl
 | a::l,bs,h=>by
  rw[mapX] at h
  split at h
  ·cases h
  ·split at h
   ·cases h
   ·rename_i cs hc;cases h;rw[List.length_cons,List.length_cons,mapX_len hc]
theorem mapX_step {α β:Type} {f:α→Except Int β} {l:List α} {k:Nat} {bs:List β} {b:β} (h:k<l.length) (hp:mapX f (l.take k)=.ok bs) (hb:f l[k]=.ok b):mapX f (l.take (k+1))=.ok (bs++[b]):=by
 rw[take_snoc h,mapX_app,hp,mapX,hb,mapX]
theorem mapX_stop {α β:Type} {f:α→Except Int β} {l:List α} {k:Nat} {bs:List β} {x:Int} (h:k<l.length) (hp:mapX f (l.take k)=.ok bs) (hb:f l[k]=.error x):mapX f l=.error x:=by
 conv=>lhs;rw[← List.take_append_drop k l]
 rw[mapX_app,hp,List.drop_eq_getElem_cons h,mapX,hb]
noncomputable def evP (e:List NodeD) (cols:List (List UInt8)) (row:RowT):ValueD×Int:=match evalF e cols row with
 | .ok v=>(v,0)
 | .error x=>(noV,x)
theorem evP_eq (e:List NodeD) (cols:List (List UInt8)) (row:RowT):eVal (evalF e cols row)=.tup [vV (evP e cols row).1,pInt .i64 (evP e cols row).2]:=by
 unfold evP
 cases evalF e cols row<;>rfl
def pairX {α:Type} (p:α×Int):Except Int α:=if p.2=0 then .ok p.1 else .error p.2
noncomputable def projR (list:List (List NodeD)) (cols:List (List UInt8)) (row:RowT):Except Int RowT:=mapX (fun e=>pairX (evP e cols row)) list
def firstX {α:Type} (f:α→Int):List α→Int
 | []=>0
 | a::l=>if f a≠0 then f a else firstX f l
theorem firstX_skip {α:Type} {f:α→Int}:∀(l:List α) (k:Nat),(∀a∈l.take k,f a=0)→firstX f l=firstX f (l.drop k)
 | l,0,_=>by rw[List.drop_zero]
 | [],k+1,_=>rfl
 | a::l,k+1,h=>by
  rw[firstX,if_neg (not_not_intro (h a (by rw[List.take_succ_cons];exact List.mem_cons_self))),List.drop_succ_cons]
  exact firstX_skip l k fun x hx=>h x (by rw[List.take_succ_cons];exact List.mem_cons_of_mem _ hx)
theorem firstX_ok {α:Type} {f:α→Int} {l:List α}:firstX f l=0↔∀a∈l,f a=0:=by
 induction l with
 | nil=>exact⟨fun _ a h=>absurd h List.not_mem_nil,fun _=>rfl⟩
 | cons a l ih=>
  rw[firstX]
  constructor
  ·intro h
   split at h
   ·rename_i q;exact absurd h q
   ·rename_i q
    intro x hx
    rcases List.mem_cons.1 hx with rfl | hx
    ·exact Decidable.of_not_not q
    ·exact ih.1 h x hx
  ·intro h
   rw[if_neg (not_not_intro (h a List.mem_cons_self))]
   exact ih.2 fun x hx=>h x (List.mem_cons_of_mem _ hx)
theorem firstX_at {α:Type} {f:α→Int} {l:List α} {k:Nat} (hk:k<l.length) (h:∀a∈l.take k,f a=0) (hx:f l[k]≠0):firstX f l=f l[k]:=by
 rw[firstX_skip l k h,List.drop_eq_getElem_cons hk,firstX,if_pos hx]
noncomputable def projF (l:List RowT) (cols:List (List UInt8)) (list:List (List NodeD)):List RowT×Int:=
 if rowsChk l≠0 then ([],rowsChk l) else if 8<list.length then ([],2) else if firstX checkF list≠0 then ([],firstX checkF list) else
 match mapX (projR list cols) l with
 | .error x=>([],x)
 | .ok m=>(m,0)
abbrev lstV (list:List (List NodeD)):PV:=.d (.c (.sl 1 (list.map ek)))
theorem p_Project (l:List RowT) (hv:∀r∈l,∀v∈r,WholeP.In64 v.N) (cols:List (List UInt8)) (list:List (List NodeD)) (hn:∀e∈list,∀n∈e,hNode n):Pure Tryz.prog 31 [rwsV l,slV 1 eText cols,lstV list] (.tup [rwsV (projF l cols list).1,pInt .i64 (projF l cols list).2]):=by
 have pc:=p_bagcheck l
 have hml:(list.map ek).length=list.length:=List.length_map _
 refine pure_of Tryz.func31 (by rfl) rfl (by kernel_rfl) (by rfl) ?_
 unfold projF
 by_cases h1:rowsChk l=0
 ·rw[if_neg (not_not_intro h1)]
  rw[h1] at pc
  obtain⟨h40,h8⟩:=rowsChk_ok.1 h1
  by_cases h2:8<list.length
  ·rw[if_pos h2]
   ((conv=>whnf);repeat' ((first|(with_reducible first|apply a_|apply b_|apply c_)|((with_reducible first|apply d_|apply e_|apply f_|apply g_);focus first|omega|(simp only[q_]<;>omega))|((with_reducible first|apply i_|apply h_);focus first|omega|(simp only[q_]<;>omega))|((with_reducible apply h_);focus first|decide|kernel_rfl)|refine s_ (by decide) ?_|refine t_ (by decide) ?_|refine r_ pc rfl ?_|with_reducible first|apply l_|apply m_|apply n_|apply o_|refine p_ (fun _=>?_) (fun _=>?_))<;>(conv=>whnf)))
   all_goals first|exact Ret.le ⟨.inr ⟨⟨1,rfl⟩,.inl rfl⟩,.inl rfl,rfl⟩ | (exfalso;omega)
  ·rw[if_neg h2]
   ((conv=>whnf);repeat' ((first|(with_reducible first|apply a_|apply b_|apply c_)|((with_reducible first|apply d_|apply e_|apply f_|apply g_);focus first|omega|(simp only[q_]<;>omega))|((with_reducible first|apply i_|apply h_);focus first|omega|(simp only[q_]<;>omega))|((with_reducible apply h_);focus first|decide|kernel_rfl)|refine s_ (by decide) ?_|refine t_ (by decide) ?_|refine r_ pc rfl ?_|with_reducible first|apply l_|apply m_|apply n_|apply o_|refine p_ (fun _=>?_) (fun _=>?_))<;>(conv=>whnf)))
   refine LoopC.mk Nat (fun k=>[(0,rwsV l),(1,slV 1 eText cols),(2,lstV list),(28,lstV list),(29,pInt .i64 list.length),(30,pInt .i64 (k:Int))]) (fun _=>[]) [] (fun k=>k≤list.length∧∀a∈list.take k,checkF a=0) (fun k=>list.length - k) 0 ⟨Nat.zero_le _,by simp⟩ ?start ?round
   case start=>exact⟨[],rfl,rfl,⟨.inl rfl,.inl rfl,.inl rfl,.inl rfl,PLe.int (by simp),.inl rfl,trivial⟩,trivial⟩
   case round=>
    rintro k ⟨hk,hz⟩
    have hk:k≤list.length:=hk
    have hz:∀a∈list.take k,checkF a=0:=hz
    by_cases q:k<list.length
    ·have pe:=p_echeck list[k] fun n h=>(hn _ (List.getElem_mem q) n h).1
     by_cases hx:checkF list[k]=0
     ·rw[hx] at pe
      ((conv=>whnf);repeat' ((first|(with_reducible first|apply a_|apply b_|apply c_)|((with_reducible first|apply d_|apply e_|apply f_|apply g_);focus first|omega|(simp only[q_]<;>omega))|((with_reducible first|apply i_|apply h_);focus first|omega|(simp only[q_]<;>omega))|((with_reducible apply h_);focus first|decide|kernel_rfl)|refine s_ (by decide) ?_|refine t_ (by decide) ?_|(refine Idx.mapI (f:=ek) k rfl q ?_)|refine r_ pe rfl ?_|with_reducible first|apply l_|apply m_|apply n_|apply o_|refine p_ (fun _=>?_) (fun _=>?_))<;>(conv=>whnf)))
      all_goals first
       | (exfalso;omega)
       | skip
      refine⟨k+1,⟨by show k+1≤_;omega,fun a ha=>?_⟩,by show list.length - (k+1)<list.length - k;omega,[],rfl,rfl,⟨.inl rfl,.inl rfl,.inl rfl,.inl rfl,PLe.int (by simp),PLe.int (by omega),trivial⟩,trivial⟩
      rw[take_snoc q,List.mem_append,List.mem_singleton] at ha
      rcases ha with ha | rfl
      ·exact hz a ha
      ·exact hx
     ·rw[if_pos (by rw[firstX_at q hz hx];exact hx),firstX_at q hz hx]
      ((conv=>whnf);repeat' ((first|(with_reducible first|apply a_|apply b_|apply c_)|((with_reducible first|apply d_|apply e_|apply f_|apply g_);focus first|omega|(simp only[q_]<;>omega))|((with_reducible first|apply i_|apply h_);focus first|omega|(simp only[q_]<;>omega))|((with_reducible apply h_);focus first|decide|kernel_rfl)|refine s_ (by decide) ?_|refine t_ (by decide) ?_|(refine Idx.mapI (f:=ek) k rfl q ?_)|refine r_ pe rfl ?_|with_reducible first|apply l_|apply m_|apply n_|apply o_|refine p_ (fun _=>?_) (fun _=>?_))<;>(conv=>whnf)))
      all_goals first|exact Ret.le ⟨.inr ⟨⟨1,rfl⟩,.inl rfl⟩,.inl rfl,rfl⟩ | (exfalso;omega)
    ·have e1:list.take k=list:=List.take_of_length_le (by omega)
     rw[e1] at hz
     rw[if_neg (not_not_intro (firstX_ok.2 hz))]
     ((conv=>whnf);repeat' ((first|(with_reducible first|apply a_|apply b_|apply c_)|((with_reducible first|apply d_|apply e_|apply f_|apply g_);focus first|omega|(simp only[q_]<;>omega))|((with_reducible first|apply i_|apply h_);focus first|omega|(simp only[q_]<;>omega))|((with_reducible apply h_);focus first|decide|kernel_rfl)|refine s_ (by decide) ?_|refine t_ (by decide) ?_|with_reducible first|apply l_|apply m_|apply n_|apply o_|refine p_ (fun _=>?_) (fun _=>?_))<;>(conv=>whnf)))
     refine LoopC.mk (Nat×List RowT) (fun s=>[(1,slV 1 eText cols),(2,lstV list),(12,.d (.app 60 33 1 (s.2.map rowC))),(40,rwsV l),(41,pInt .i64 l.length),(42,pInt .i64 (s.1:Int))]) (fun _=>[(60,.tail 33 1)]) [60] (fun s=>s.1≤l.length∧mapX (projR list cols) (l.take s.1)=.ok s.2) (fun s=>l.length - s.1) (0,[]) ⟨Nat.zero_le _,rfl⟩ ?start2 ?round2
     case start2=>exact⟨[],rfl,rfl,⟨.inl rfl,.inl rfl,⟨rfl,rfl,Nat.zero_lt_succ _,rfl,rfl⟩,.inl rfl,PLe.int (by simp),.inl rfl,trivial⟩,⟨rfl,Nat.zero_lt_succ _⟩,trivial⟩
     case round2=>
      rintro⟨i,m⟩ ⟨hi,hm⟩
      have hi:i≤l.length:=hi
      have hm:mapX (projR list cols) (l.take i)=.ok m:=hm
      have hmlen:m.length=i:=by rw[mapX_len hm,List.length_take];omega
      by_cases qi:i<l.length
      ·((conv=>whnf);repeat' ((first|(with_reducible first|apply a_|apply b_|apply c_)|((with_reducible first|apply d_|apply e_|apply f_|apply g_);focus first|omega|(simp only[q_]<;>omega))|((with_reducible first|apply i_|apply h_);focus first|omega|(simp only[q_]<;>omega))|((with_reducible apply h_);focus first|decide|kernel_rfl)|refine s_ (by decide) ?_|refine t_ (by decide) ?_|(refine Idx.mapI (f:=rowC) i rfl qi ?_)|with_reducible first|apply l_|apply m_|apply n_|apply o_|refine p_ (fun _=>?_) (fun _=>?_))<;>(conv=>whnf)))
       refine LoopC.mk (Nat×RowT) (fun s=>[(1,slV 1 eText cols),(2,lstV list),(12,.d (.app 60 33 1 (m.map rowC))),(14,slV 3 ValueD.c l[i]),(15,.d (.app 61 36 3 (s.2.map ValueD.c))),(40,rwsV l),(41,pInt .i64 l.length),(42,pInt .i64 (i:Int)),(46,lstV list),(47,pInt .i64 list.length),(48,pInt .i64 (s.1:Int))]) (fun _=>[(60,.tail 33 1),(61,.tail 36 3)]) [60,61] (fun s=>s.1≤list.length∧mapX (fun e=>pairX (evP e cols l[i])) (list.take s.1)=.ok s.2) (fun s=>list.length - s.1) (0,[]) ⟨Nat.zero_le _,rfl⟩ ?start3 ?round3
       case start3=>exact⟨[(60,60)],rfl,rfl,⟨.inl rfl,.inl rfl,⟨rfl,rfl,rfl,rfl,rfl⟩,.inl rfl,⟨rfl,rfl,Nat.zero_lt_succ _,rfl,rfl⟩,.inl rfl,.inl rfl,.inl rfl,.inl rfl,PLe.int (by simp),.inl rfl,trivial⟩,⟨rfl,rfl,rfl⟩,⟨rfl,Nat.zero_lt_succ _⟩,trivial⟩
       case round3=>
        rintro⟨j,r⟩ ⟨hj,hr⟩
        have hj:j≤list.length:=hj
        have hr:mapX (fun e=>pairX (evP e cols l[i])) (list.take j)=.ok r:=hr
        have hrlen:r.length=j:=by rw[mapX_len hr,List.length_take];omega
        by_cases qj:j<list.length
        ·have hmi:=List.getElem_mem qi
         have pv:=p_eval list[j] (hn _ (List.getElem_mem qj)) cols l[i] (by have:=(h8 _ hmi).1;omega) (hv _ hmi)
         rw[evP_eq] at pv
         by_cases hx:(evP list[j] cols l[i]).2=0
         ·rw[hx] at pv
          have hs:=mapX_step (f:=fun e=>pairX (evP e cols l[i])) qj hr (show pairX (evP list[j] cols l[i])=.ok _ from if_pos hx)
          ((conv=>whnf);repeat' ((first|(with_reducible first|apply a_|apply b_|apply c_)|((with_reducible first|apply d_|apply e_|apply f_|apply g_);focus first|omega|(simp only[q_]<;>omega))|((with_reducible first|apply i_|apply h_);focus first|omega|(simp only[q_]<;>omega))|((with_reducible apply h_);focus first|decide|kernel_rfl)|refine s_ (by decide) ?_|refine t_ (by decide) ?_|(refine Idx.mapI (f:=ek) j rfl qj ?_)|refine r_ pv rfl ?_|(refine Need.by 32 rfl (by simp only[List.length_map,List.length_singleton];omega) ?_)|with_reducible first|apply l_|apply m_|apply n_|apply o_|refine p_ (fun _=>?_) (fun _=>?_))<;>(conv=>whnf)))
          all_goals first
           | (exfalso;omega)
           | skip
          refine⟨(j+1,r++[(evP list[j] cols l[i]).1]),⟨by show j+1≤_;omega,hs⟩,by show list.length - (j+1)<list.length - j;omega,[(60,60),(61,65)],rfl,rfl,⟨.inl rfl,.inl rfl,⟨rfl,rfl,rfl,rfl,rfl⟩,.inl rfl,⟨rfl,rfl,rfl,rfl,(show _=(r++[(evP list[j] cols l[i]).1]).map ValueD.c by rw[List.map_append];rfl)⟩,.inl rfl,.inl rfl,.inl rfl,.inl rfl,PLe.int (by simp),PLe.int rfl,trivial⟩,⟨rfl,rfl,rfl⟩,⟨rfl,rfl,rfl⟩,trivial⟩
         ·have hs:=mapX_stop (f:=fun e=>pairX (evP e cols l[i])) qj hr (show pairX (evP list[j] cols l[i])=.error _ from if_neg hx)
          have hs2:=mapX_stop (f:=projR list cols) qi hm hs
          rw[hs2]
          ((conv=>whnf);repeat' ((first|(with_reducible first|apply a_|apply b_|apply c_)|((with_reducible first|apply d_|apply e_|apply f_|apply g_);focus first|omega|(simp only[q_]<;>omega))|((with_reducible first|apply i_|apply h_);focus first|omega|(simp only[q_]<;>omega))|((with_reducible apply h_);focus first|decide|kernel_rfl)|refine s_ (by decide) ?_|refine t_ (by decide) ?_|(refine Idx.mapI (f:=ek) j rfl qj ?_)|refine r_ pv rfl ?_|with_reducible first|apply l_|apply m_|apply n_|apply o_|refine p_ (fun _=>?_) (fun _=>?_))<;>(conv=>whnf)))
          all_goals first|exact Ret.le ⟨.inr ⟨⟨1,rfl⟩,.inl rfl⟩,.inl rfl,rfl⟩ | (exfalso;omega)
        ·have e2:list.take j=list:=List.take_of_length_le (by omega)
         rw[e2] at hr
         have hs:=mapX_step (f:=projR list cols) qi hm hr
         ((conv=>whnf);repeat' ((first|(with_reducible first|apply a_|apply b_|apply c_)|((with_reducible first|apply d_|apply e_|apply f_|apply g_);focus first|omega|(simp only[q_]<;>omega))|((with_reducible first|apply i_|apply h_);focus first|omega|(simp only[q_]<;>omega))|((with_reducible apply h_);focus first|decide|kernel_rfl)|refine s_ (by decide) ?_|refine t_ (by decide) ?_|(refine Need.by 24 rfl (by simp only[List.length_map,List.length_singleton];omega) ?_)|with_reducible first|apply l_|apply m_|apply n_|apply o_|refine p_ (fun _=>?_) (fun _=>?_))<;>(conv=>whnf)))
         all_goals first
          | (exfalso;omega)
          | skip
         refine⟨(i+1,m++[r]),⟨by show i+1≤_;omega,hs⟩,by show l.length - (i+1)<l.length - i;omega,[(60,70)],rfl,rfl,⟨.inl rfl,.inl rfl,⟨rfl,rfl,rfl,rfl,(show _=(m++[r]).map rowC by rw[List.map_append];rfl)⟩,.inl rfl,PLe.int (by simp),PLe.int rfl,trivial⟩,⟨rfl,rfl,rfl⟩,trivial⟩
      ·have e2:l.take i=l:=List.take_of_length_le (by omega)
       rw[e2] at hm
       rw[hm]
       ((conv=>whnf);repeat' ((first|(with_reducible first|apply a_|apply b_|apply c_)|((with_reducible first|apply d_|apply e_|apply f_|apply g_);focus first|omega|(simp only[q_]<;>omega))|((with_reducible first|apply i_|apply h_);focus first|omega|(simp only[q_]<;>omega))|((with_reducible apply h_);focus first|decide|kernel_rfl)|refine s_ (by decide) ?_|refine t_ (by decide) ?_|with_reducible first|apply l_|apply m_|apply n_|apply o_|refine p_ (fun _=>?_) (fun _=>?_))<;>(conv=>whnf)))
       all_goals first|exact Ret.eq rfl | (exfalso;omega)
 ·rw[if_pos h1]
  ((conv=>whnf);repeat' ((first|(with_reducible first|apply a_|apply b_|apply c_)|((with_reducible first|apply d_|apply e_|apply f_|apply g_);focus first|omega|(simp only[q_]<;>omega))|((with_reducible first|apply i_|apply h_);focus first|omega|(simp only[q_]<;>omega))|((with_reducible apply h_);focus first|decide|kernel_rfl)|refine s_ (by decide) ?_|refine t_ (by decide) ?_|refine r_ pc rfl ?_|with_reducible first|apply l_|apply m_|apply n_|apply o_|refine p_ (fun _=>?_) (fun _=>?_))<;>(conv=>whnf)))
  all_goals first|exact Ret.le ⟨.inr ⟨⟨1,rfl⟩,.inl rfl⟩,.inl rfl,rfl⟩ | (exfalso;omega)
end
section
open Go.RowKit K
set_option maxRecDepth 100000
set_option maxRecDepth 100000
def insRev (f:RowT→RowT→Int) (x:RowT):List RowT→List RowT
 | []=>[x]
 | y::ys=>if f x y<0 then y::insRev f x ys else x::y::ys
def isrt (f:RowT→RowT→Int) (l:List RowT):List RowT:=(l.foldl (fun r x=>insRev f x r) []).reverse
theorem insRev_split {f:RowT→RowT→Int} {x:RowT}:∀(b c:List RowT),(∀y∈b,f x y<0)→(∀y ys,c=y::ys→¬f x y<0)→insRev f x (b++c)=b++x::c
 | [],[],_,_=>rfl
 | [],y::ys,_,h=>by
  show insRev f x (y::ys)=_
  rw[insRev,if_neg (h y ys rfl)];rfl
 | y::b,c,hb,h=>by
  rw[List.cons_append,insRev,if_pos (hb y List.mem_cons_self),insRev_split b c (fun z hz=>hb z (List.mem_cons_of_mem _ hz)) h];rfl
theorem isrt_snoc {f:RowT→RowT→Int} (l:List RowT) (x:RowT) (fr bk:List RowT) (h:isrt f l=fr++bk) (hb:∀y∈bk,f x y<0) (hf:∀y ys,fr=ys++[y]→¬f x y<0):isrt f (l++[x])=fr++x::bk:=by
 unfold isrt at h ⊢
 rw[List.foldl_append]
 have e:l.foldl (fun r x=>insRev f x r) []=bk.reverse++fr.reverse:=by
  rw[← List.reverse_reverse (l.foldl _ _),h,List.reverse_append]
 show (insRev f x (l.foldl (fun r x=>insRev f x r) [])).reverse=_
 rw[e,insRev_split _ _ (fun y hy=>hb y (List.mem_reverse.1 hy)) (fun y ys hy=>hf y ys.reverse (by rw[← List.reverse_reverse fr,hy,List.reverse_cons]))]
 simp
theorem insRev_len {f:RowT→RowT→Int} {x:RowT}:∀l:List RowT,(insRev f x l).length=l.length+1
 | []=>rfl
 | y::ys=>by
  rw[insRev]
  split
  ·rw[List.length_cons,insRev_len ys,List.length_cons]
  ·rfl
theorem isrt_len {f:RowT→RowT→Int} (l:List RowT):(isrt f l).length=l.length:=by
 unfold isrt
 rw[List.length_reverse]
 have:∀(l r:List RowT),(l.foldl (fun r x=>insRev f x r) r).length=r.length+l.length:=by
  intro l
  induction l with
  | nil=>intro r;rfl
  | cons x l ih=>intro r;rw[List.foldl_cons,ih,insRev_len,List.length_cons];omega
 rw[this];simp
theorem swap_set {α:Type}:∀(A B:List α) (x y:α),((A++y::x::B).set (A.length+1) y).set A.length x=A++x::y::B
 | [],B,x,y=>rfl
 | a::A,B,x,y=>by
  show a::((A++y::x::B).set (A.length+1) y).set A.length x=a::(A++x::y::B)
  rw[swap_set A B x y]
theorem insRev_mem {f:RowT→RowT→Int} {x y:RowT}:∀{l:List RowT},y∈insRev f x l→y=x∨y∈l
 | [],h=>by rw[insRev,List.mem_singleton] at h;exact .inl h
 | z::l,h=>by
  rw[insRev] at h
  split at h
  ·rcases List.mem_cons.1 h with h | h
   ·exact .inr (by rw[h];exact List.mem_cons_self)
   ·exact (insRev_mem h).imp id fun q=>List.mem_cons_of_mem _ q
  ·rcases List.mem_cons.1 h with h | h
   ·exact .inl h
   ·exact .inr h
theorem isrt_mem {f:RowT→RowT→Int} {l:List RowT} {y:RowT} (h:y∈isrt f l):y∈l:=by
 unfold isrt at h
 rw[List.mem_reverse] at h
 have:∀(l r:List RowT),y∈l.foldl (fun r x=>insRev f x r) r→y∈r∨y∈l:=by
  intro l
  induction l with
  | nil=>intro r h;exact .inl h
  | cons x l ih=>
   intro r h
   rcases ih _ h with h | h
   ·rcases insRev_mem h with h | h
    ·exact .inr (by rw[h];exact List.mem_cons_self)
    ·exact .inl h
   ·exact .inr (List.mem_cons_of_mem _ h)
 rcases this l [] h with h | h
 ·cases h
 ·exact h
theorem ins_start {f:RowT→RowT→Int} (l:List RowT) (a:Nat):l.take a++isrt f ((l.drop a).take (a+1 - a))++l.drop (a+1)=l:=by
 rw[show a+1 - a=1 by omega]
 by_cases h:a<l.length
 ·rw[List.drop_eq_getElem_cons h]
  show l.take a++[l[a]]++l.drop (a+1)=l
  rw[List.append_assoc,List.singleton_append,← List.drop_eq_getElem_cons h,List.take_append_drop]
 ·rw[List.drop_of_length_le (by omega),List.drop_of_length_le (by omega),List.take_of_length_le (by omega)]
  show l++[]++[]=l
  simp
abbrev tRowI:Nat:=33
abbrev keysF (keys:List KeyD):D:=.clo 55 [.c (.sl 2 (keys.map KeyD.c))] []
theorem s_insort (keys:List KeyD) (hk:keys.length≤1000) (l:List RowT) (hl:l.length≤1000) (hc:∀k∈keys,∀r∈l,0≤k.Col∧k.Col<r.length) (a b:Nat) (hab:a≤b) (hb:b≤l.length) (R:List RowT) (hR:R=l.take a++isrt (ordK keys) ((l.drop a).take (b - a))++l.drop b):CallS Tryz.prog 89 [.d (.arr FK tRowI 1 0 l.length),pInt .i64 a,pInt .i64 b,.d (keysF keys)] [] [(FK,.arr tRowI 1 (l.map rowC))] (.tup []) [(FK,.arr tRowI 1 (R.map rowC))]:=by
 refine callS_of Tryz.func89 (by rfl) rfl (by kernel_rfl) (by rfl) [FK] rfl ?_
 ((conv=>whnf);repeat' ((first|(with_reducible first|apply a_|apply b_|apply c_)|((with_reducible first|apply d_|apply e_|apply f_|apply g_);focus first|omega|(simp only[q_]<;>omega))|((with_reducible first|apply i_|apply h_);focus first|omega|(simp only[q_]<;>omega))|((with_reducible apply h_);focus first|decide|kernel_rfl)|refine s_ (by decide) ?_|refine t_ (by decide) ?_|with_reducible first|apply l_|apply m_|apply n_|apply o_|refine p_ (fun _=>?_) (fun _=>?_))<;>(conv=>whnf)))
 refine LoopC.mk Nat (fun i=>[(0,.d (.arr FK tRowI 1 0 l.length)),(1,pInt .i64 a),(2,pInt .i64 b),(3,.d (keysF keys)),(8,pInt .i64 (i:Int))]) (fun i=>[(FK,.arr tRowI 1 ((l.take a++isrt (ordK keys) ((l.drop a).take (i - a))++l.drop i).map rowC))]) [FK] (fun i=>a≤i∧i≤max b (a+1)) (fun i=>b+1 - i) (a+1) ⟨by omega,by omega⟩ ?start ?round
 case start=>
  refine⟨[(FK,FK)],rfl,rfl,?_,?_⟩<;>repeat' (first|exact rfl|exact trivial|exact Or.inl rfl|refine And.intro ?_ ?_)
  ·show _=(l.take a++isrt (ordK keys) ((l.drop a).take (a+1 - a))++l.drop (a+1)).map rowC
   rw[ins_start]
 case round=>
  rintro i ⟨i1,i2⟩
  have i1:a+1≤i∨a≤i:=.inr i1
  have i2:i≤max b (a+1):=i2
  have i3:a≤i:=by omega
  by_cases q:i<b
  ·have hil:i<l.length:=by omega
   obtain⟨x,hx⟩:∃x,x=l[i]:=⟨_,rfl⟩
   have hdx:l.drop i=x::l.drop (i+1):=by rw[hx];exact List.drop_eq_getElem_cons hil
   have hsl:(isrt (ordK keys) ((l.drop a).take (i - a))).length=i - a:=by rw[isrt_len,List.length_take,List.length_drop];omega
   ((conv=>whnf);repeat' ((first|(with_reducible first|apply a_|apply b_|apply c_)|((with_reducible first|apply d_|apply e_|apply f_|apply g_);focus first|omega|(simp only[q_]<;>omega))|((with_reducible first|apply i_|apply h_);focus first|omega|(simp only[q_]<;>omega))|((with_reducible apply h_);focus first|decide|kernel_rfl)|refine s_ (by decide) ?_|refine t_ (by decide) ?_|with_reducible first|apply l_|apply m_|apply n_|apply o_|refine p_ (fun _=>?_) (fun _=>?_))<;>(conv=>whnf)))
   refine LoopC.mk (List RowT×List RowT) (fun s=>[(0,.d (.arr FK tRowI 1 0 l.length)),(1,pInt .i64 a),(2,pInt .i64 b),(3,.d (keysF keys)),(8,pInt .i64 (i:Int)),(9,pInt .i64 ((a+s.1.length:Nat):Int))]) (fun s=>[(FK,.arr tRowI 1 ((l.take a++s.1++x::s.2++l.drop (i+1)).map rowC))]) [FK] (fun s=>s.1++s.2=isrt (ordK keys) ((l.drop a).take (i - a))∧∀y∈s.2,ordK keys x y<0) (fun s=>s.1.length) (isrt (ordK keys) ((l.drop a).take (i - a)),[]) ⟨List.append_nil _,fun y hy=>absurd hy List.not_mem_nil⟩ ?start2 ?round2
   case start2=>
    refine⟨[(FK,FK)],rfl,rfl,?_,?_⟩<;>repeat' (first|exact rfl|exact trivial|exact Or.inl rfl|refine And.intro ?_ ?_)
    ·exact PLe.int (show (i:Int)=((a+(isrt (ordK keys) ((l.drop a).take (i - a))).length:Nat):Int) by omega)
    ·show _=(l.take a++isrt (ordK keys) ((l.drop a).take (i - a))++[x]++l.drop (i+1)).map rowC
     rw[hdx,List.append_assoc (l.take a++_),List.singleton_append]
   case round2=>
    rintro⟨fr,bk⟩ ⟨h1,h2⟩
    have h1:fr++bk=isrt (ordK keys) ((l.drop a).take (i - a)):=h1
    have h2:∀y∈bk,ordK keys x y<0:=h2
    have hlen:=congrArg List.length h1
    rw[List.length_append,hsl] at hlen
    have hta:(l.take a).length=a:=by rw[List.length_take];omega
    have htk:(l.drop a).take (i+1 - a)=(l.drop a).take (i - a)++[x]:=by
     have h3:i - a<(l.drop a).length:=by rw[List.length_drop];omega
     have e:=take_snoc h3
     rw[show i - a+1=i+1 - a by omega] at e
     rw[e]
     congr 2
     apply Option.some.inj
     rw[← List.getElem?_eq_getElem,List.getElem?_drop,hx,← List.getElem?_eq_getElem]
     congr 1;omega
    have hxm:x∈l:=by rw[hx];exact List.getElem_mem hil
    rcases List.eq_nil_or_concat fr with rfl | ⟨fr0,y,efr⟩
    ·have hin:isrt (ordK keys) ((l.drop a).take (i+1 - a))=[]++x::bk:=by
      rw[htk]
      exact isrt_snoc _ x [] bk h1.symm h2 fun y ys e=>by simp at e
     ((conv=>whnf);repeat' ((first|(with_reducible first|apply a_|apply b_|apply c_)|((with_reducible first|apply d_|apply e_|apply f_|apply g_);focus first|omega|(simp only[q_]<;>omega))|((with_reducible first|apply i_|apply h_);focus first|omega|(simp only[q_]<;>omega))|((with_reducible apply h_);focus first|decide|kernel_rfl)|refine s_ (by decide) ?_|refine t_ (by decide) ?_|with_reducible first|apply l_|apply m_|apply n_|apply o_|refine p_ (fun _=>?_) (fun _=>?_))<;>(conv=>whnf)))
     all_goals first
      | (exfalso;omega)
      | skip
     refine⟨i+1,⟨by show a≤i+1;omega,by show i+1≤max b (a+1);omega⟩,by show b+1 - (i+1)<b+1 - i;omega,[(FK,FK)],rfl,rfl,?_,?_⟩<;>repeat' (first|exact rfl|exact trivial|exact Or.inl rfl|refine And.intro ?_ ?_)
     all_goals first|exact PLe.int (show (i:Int)+1=((i+1:Nat):Int) by omega) | skip
     show _=(l.take a++isrt (ordK keys) ((l.drop a).take (i+1 - a))++l.drop (i+1)).map rowC
     rw[hin,List.append_nil,List.nil_append]
    ·rw[List.concat_eq_append] at efr
     subst efr
     have hym:y∈l:=by
      have:y∈isrt (ordK keys) ((l.drop a).take (i - a)):=by rw[← h1];simp
      exact List.mem_of_mem_drop (List.mem_of_mem_take (isrt_mem this))
     have po:=p_order keys hk x y fun k hk=>⟨(hc k hk x hxm).1,(hc k hk x hxm).2,(hc k hk y hym).2⟩
     have hfl:(fr0++[y]).length=fr0.length+1:=by simp
     have hM:l.take a++(fr0++[y])++x::bk++l.drop (i+1)=(l.take a++fr0)++y::x::(bk++l.drop (i+1)):=by simp
     have hA:(l.take a++fr0).length=a+fr0.length:=by rw[List.length_append,hta]
     have hml:((l.take a++(fr0++[y])++x::bk++l.drop (i+1)).map rowC).length=l.length:=by
      have hlen:=hlen
      rw[hfl] at hlen
      simp only[List.length_map,hM,List.length_append,hta,List.length_cons,List.length_drop]
      omega
     have j0:0+(((a+(fr0++[y]).length:Nat):Int)).toNat=(l.take a++fr0).length+1:=by omega
     have j1:0+(((a+(fr0++[y]).length:Nat):Int) - 1).toNat=(l.take a++fr0).length:=by omega
     have r0:((l.take a++(fr0++[y])++x::bk++l.drop (i+1)).map rowC)[0+(((a+(fr0++[y]).length:Nat):Int)).toNat]? = some (rowC x):=by
      rw[j0,hM,List.getElem?_map,List.getElem?_append_right (by omega)];simp
     have r1:((l.take a++(fr0++[y])++x::bk++l.drop (i+1)).map rowC)[0+(((a+(fr0++[y]).length:Nat):Int) - 1).toNat]? = some (rowC y):=by
      rw[j1,hM,List.getElem?_map,List.getElem?_append_right (by omega)];simp
     have r2:∀v,(((l.take a++(fr0++[y])++x::bk++l.drop (i+1)).map rowC).set (0+(((a+(fr0++[y]).length:Nat):Int)).toNat) v)[0+(((a+(fr0++[y]).length:Nat):Int) - 1).toNat]? = some (rowC y):=fun v=>by
      rw[List.getElem?_set_ne (by omega)];exact r1
     by_cases ho:ordK keys x y<0
     ·((conv=>whnf);repeat' ((first|(with_reducible first|apply a_|apply b_|apply c_)|((with_reducible first|apply d_|apply e_|apply f_|apply g_);focus first|omega|(simp only[q_]<;>omega))|((with_reducible first|apply i_|apply h_);focus first|omega|(simp only[q_]<;>omega))|((with_reducible apply h_);focus first|decide|kernel_rfl)|refine s_ (by decide) ?_|refine t_ (by decide) ?_|(first|refine Row.mk _ r0 ?_|refine Row.mk _ r1 ?_|refine Row.mk _ (r2 _) ?_)|refine r_ po rfl ?_|with_reducible first|apply l_|apply m_|apply n_|apply o_|refine p_ (fun _=>?_) (fun _=>?_))<;>(conv=>whnf)))
      all_goals first
       | (exfalso;omega)
       | skip
      refine⟨(fr0,y::bk),⟨by rw[← h1];simp,fun z hz=>?_⟩,by show fr0.length<(fr0++[y]).length;omega,[(FK,FK)],rfl,rfl,?_,?_⟩
      ·rcases List.mem_cons.1 hz with rfl | hz
       ·exact ho
       ·exact h2 z hz
      all_goals repeat' (first|exact rfl|exact trivial|exact Or.inl rfl|refine And.intro ?_ ?_)
      all_goals first|exact PLe.int (show ((a+(fr0++[y]).length:Nat):Int) - 1=((a+fr0.length:Nat):Int) by omega) | skip
      show ((((l.take a++(fr0++[y])++x::bk++l.drop (i+1)).map rowC).set (0+(((a+(fr0++[y]).length:Nat):Int)).toNat) (rowC y)).set (0+(((a+(fr0++[y]).length:Nat):Int) - 1).toNat) (rowC x))=(l.take a++fr0++x::(y::bk)++l.drop (i+1)).map rowC
      rw[j0,j1,hM,List.map_append,List.map_cons,List.map_cons]
      have:=swap_set ((l.take a++fr0).map rowC) ((bk++l.drop (i+1)).map rowC) (rowC x) (rowC y)
      rw[List.length_map] at this
      rw[this];simp
     ·have hin:isrt (ordK keys) ((l.drop a).take (i+1 - a))=(fr0++[y])++x::bk:=by
       rw[htk]
       refine isrt_snoc _ x _ bk h1.symm h2 fun z zs e=>?_
       have e2:y=z:=by
        have:=congrArg List.getLast? e
        simpa using this
       rw[← e2];exact ho
      ((conv=>whnf);repeat' ((first|(with_reducible first|apply a_|apply b_|apply c_)|((with_reducible first|apply d_|apply e_|apply f_|apply g_);focus first|omega|(simp only[q_]<;>omega))|((with_reducible first|apply i_|apply h_);focus first|omega|(simp only[q_]<;>omega))|((with_reducible apply h_);focus first|decide|kernel_rfl)|refine s_ (by decide) ?_|refine t_ (by decide) ?_|(first|refine Row.mk _ r0 ?_|refine Row.mk _ r1 ?_)|refine r_ po rfl ?_|with_reducible first|apply l_|apply m_|apply n_|apply o_|refine p_ (fun _=>?_) (fun _=>?_))<;>(conv=>whnf)))
      all_goals first
       | (exfalso;omega)
       | skip
      refine⟨i+1,⟨by show a≤i+1;omega,by show i+1≤max b (a+1);omega⟩,by show b+1 - (i+1)<b+1 - i;omega,[(FK,FK)],rfl,rfl,?_,?_⟩<;>repeat' (first|exact rfl|exact trivial|exact Or.inl rfl|refine And.intro ?_ ?_)
      all_goals first|exact PLe.int (show (i:Int)+1=((i+1:Nat):Int) by omega) | skip
      show _=(l.take a++isrt (ordK keys) ((l.drop a).take (i+1 - a))++l.drop (i+1)).map rowC
      rw[hin];simp
  ·have hR2:l.take a++isrt (ordK keys) ((l.drop a).take (i - a))++l.drop i=R:=by
    rcases Nat.lt_or_ge a b with h | h
    ·rw[hR,show i=b by omega]
    ·have hb2:b=a:=by omega
     have hi:i=a∨i=a+1:=by omega
     rw[hR,hb2,Nat.sub_self]
     rcases hi with rfl | rfl
     ·rw[Nat.sub_self]
     ·rw[ins_start]
      show l=l.take a++[]++l.drop a
      rw[List.append_nil,List.take_append_drop]
   ((conv=>whnf);repeat' ((first|(with_reducible first|apply a_|apply b_|apply c_)|((with_reducible first|apply d_|apply e_|apply f_|apply g_);focus first|omega|(simp only[q_]<;>omega))|((with_reducible first|apply i_|apply h_);focus first|omega|(simp only[q_]<;>omega))|((with_reducible apply h_);focus first|decide|kernel_rfl)|refine s_ (by decide) ?_|refine t_ (by decide) ?_|with_reducible first|apply l_|apply m_|apply n_|apply o_|refine p_ (fun _=>?_) (fun _=>?_))<;>(conv=>whnf)))
   refine RetS.mk [(FK,FK)] [FK] rfl rfl ?_ ?_<;>repeat' (first|exact rfl|exact trivial|exact Or.inl rfl|refine And.intro ?_ ?_)
   all_goals first | (show _=R.map rowC;rw[hR2]) | skip
end
section
open Go.RowKit K
set_option maxRecDepth 100000
theorem bytes_trans:∀a b c:List UInt8,Lib.compareBytes a b≤0→Lib.compareBytes b c≤0→Lib.compareBytes a c≤0
 | [],_,c,_,_=>by cases c<;>simp[Lib.compareBytes]
 | _::_,[],c,h,_=>by simp[Lib.compareBytes] at h
 | _::_,_::_,[],_,h=>by simp[Lib.compareBytes] at h
 | x::a,y::b,z::c,h1,h2=>by
  have ih:=bytes_trans a b c
  unfold Lib.compareBytes at h1 h2 ⊢
  simp only[UInt8.lt_iff_toNat_lt] at *
  by_cases p1:x.toNat<y.toNat
  ·by_cases p2:y.toNat<z.toNat
   ·rw[if_pos (by omega)];decide
   ·rw[if_neg p2] at h2
    by_cases p3:z.toNat<y.toNat
    ·rw[if_pos p3] at h2;omega
    ·rw[if_pos (by omega)];decide
  ·rw[if_neg p1] at h1
   by_cases p1':y.toNat<x.toNat
   ·rw[if_pos p1'] at h1;omega
   ·rw[if_neg p1'] at h1
    by_cases p2:y.toNat<z.toNat
    ·rw[if_pos (by omega)];decide
    ·rw[if_neg p2] at h2
     by_cases p3:z.toNat<y.toNat
     ·rw[if_pos p3] at h2;omega
     ·rw[if_neg p3] at h2
      rw[if_neg (by omega),if_neg (by omega)]
      exact ih h1 h2
theorem vOrd_eqB (x y:ValueD):vOrd x y=if ValP.cmpI x.Kind y.Kind≠0 then ValP.cmpI x.Kind y.Kind else if ValP.cmpI x.N y.N≠0 then ValP.cmpI x.N y.N else Lib.compareBytes x.S y.S:=by
 unfold vOrd
 rw[ValP.order_eq]
 have e3:ValP.cmpS (tx x.S) (tx y.S)=Lib.compareBytes x.S y.S:=rfl
 simp only[e3]
 split
 ·rfl
 ·split
  ·rfl
  ·split
   ·rfl
   ·rename_i h;exact (Decidable.of_not_not h).symm
theorem vOrd_leB (x y:ValueD):vOrd x y≤0↔x.Kind<y.Kind∨(x.Kind=y.Kind∧(x.N<y.N∨(x.N=y.N∧Lib.compareBytes x.S y.S≤0))):=by
 rw[vOrd_eqB]
 unfold ValP.cmpI
 (repeat' split)<;>omega
theorem vOrd_tr {x y z:ValueD} (h1:vOrd x y≤0) (h2:vOrd y z≤0):vOrd x z≤0:=by
 rw[vOrd_leB] at *
 have ht:=bytes_trans x.S y.S z.S
 omega
end
section
open Go.RowKit K
set_option maxRecDepth 100000
set_option maxRecDepth 100000
def minF:List ValueD→ValueD
 | []=>noV
 | v::vs=>vs.foldl (fun m x=>if vOrd x m<0 then x else m) v
def maxF:List ValueD→ValueD
 | []=>noV
 | v::vs=>vs.foldl (fun m x=>if 0<vOrd x m then x else m) v
def tellF (l:List RowT) (a:AggD):ValueD×Int:=
 if a.Kind=1∧a.Col<0 then (⟨1,(l.length:Int),[]⟩,0)
 else if a.Kind=1 then (⟨1,((colF l a.Col.toNat).length:Int),[]⟩,0)
 else if a.Kind=2 then sumF (colF l a.Col.toNat)
 else if (colF l a.Col.toNat).length=0 then (noV,0)
 else if a.Kind=3 then (minF (colF l a.Col.toNat),0)
 else (maxF (colF l a.Col.toNat),0)
def rowP (aggs:List AggD) (p:PartD):Except Int RowT:=match mapX (fun a=>pairX (tellF p.2 a)) aggs with
 | .ok vs=>.ok (p.1++vs)
 | .error e=>.error e
def aggE (l:List RowT):List AggD→Int
 | []=>0
 | a::al=>if (a.Kind≠1∨a.Col≠-1)∧placesF l [a.Col]≠0 then placesF l [a.Col] else aggE l al
def grpG (l:List RowT) (by_:List Int) (aggs:List AggD):Int:=
 if 8<by_.length+aggs.length then 2 else if aggs.any (fun a=>decide (a.Kind<1∨4<a.Kind))=true then 7 else if placesF l by_≠0 then placesF l by_ else aggE l aggs
def groupF (l:List RowT) (by_:List Int) (aggs:List AggD):List RowT×Int:=
 if rowsChk l≠0 then ([],rowsChk l) else if grpG l by_ aggs≠0 then ([],grpG l by_ aggs) else match mapX (rowP aggs) (partsF by_ l) with
  | .ok m=>(m,0)
  | .error e=>([],e)
instance decV:DecidableEq ValueD:=fun a b=>decidable_of_iff _ (ValueD.eqB_iff a b)
instance decR:DecidableEq RowT:=fun a b=>decidable_of_iff _ (listEqB_iff ValueD.eqB_iff a b)
def keysE (by_:List Int) (l:List RowT):List RowT:=l.foldl (fun s r=>if keyOfR by_ r∈s then s else s++[keyOfR by_ r]) []
theorem keysE_snoc (by_:List Int) (l:List RowT) (r:RowT):keysE by_ (l++[r])=if keyOfR by_ r∈keysE by_ l then keysE by_ l else keysE by_ l++[keyOfR by_ r]:=by
 unfold keysE
 rw[List.foldl_append];rfl
theorem keysE_mem {by_:List Int} {l:List RowT} {k:RowT}:k∈keysE by_ l↔∃r∈l,keyOfR by_ r=k:=by
 induction l using snoc_ind0 with
 | h0=>simp[keysE]
 | h l r ih=>
  rw[keysE_snoc]
  constructor
  ·intro h
   split at h
   ·obtain⟨x,hx,e⟩:=ih.1 h
    exact⟨x,List.mem_append_left _ hx,e⟩
   ·rcases List.mem_append.1 h with h | h
    ·obtain⟨x,hx,e⟩:=ih.1 h
     exact⟨x,List.mem_append_left _ hx,e⟩
    ·exact⟨r,List.mem_append_right _ List.mem_cons_self,(List.mem_singleton.1 h).symm⟩
  ·rintro⟨x,hx,e⟩
   rcases List.mem_append.1 hx with hx | hx
   ·have:=ih.2 ⟨x,hx,e⟩
    split
    ·exact this
    ·exact List.mem_append_left _ this
   ·rw[List.mem_singleton.1 hx] at e
    subst e
    split
    ·assumption
    ·exact List.mem_append_right _ List.mem_cons_self
theorem keysE_nodup (by_:List Int) (l:List RowT):(keysE by_ l).Nodup:=by
 induction l using snoc_ind0 with
 | h0=>exact List.nodup_nil
 | h l r ih=>
  rw[keysE_snoc]
  split
  ·exact ih
  ·rename_i h
   exact List.nodup_append.2 ⟨ih,by simp,fun a ha b hb e=>h (by rw[← List.mem_singleton.1 hb,← e];exact ha)⟩
abbrev ofK (by_:List Int) (l:List RowT) (k:RowT):List RowT:=l.filter fun r=>decide (keyOfR by_ r=k)
theorem ofK_snoc (by_:List Int) (l:List RowT) (r k:RowT):ofK by_ (l++[r]) k=ofK by_ l k++(if keyOfR by_ r=k then [r] else []):=by
 unfold ofK
 rw[List.filter_append]
 congr 1
 by_cases h:keyOfR by_ r=k<;>simp[h]
theorem ofK_none {by_:List Int} {l:List RowT} {k:RowT} (h:k∉keysE by_ l):ofK by_ l k=[]:=by
 unfold ofK
 rw[List.filter_eq_nil_iff]
 intro r hr hd
 exact h (keysE_mem.2 ⟨r,hr,of_decide_eq_true hd⟩)
theorem findP_iff {ps:List PartD} {k:RowT}:findP ps k=none↔k∉ps.map Prod.fst:=by
 constructor
 ·intro h hm
  obtain⟨p,hp,e⟩:=List.mem_map.1 hm
  have:=findP_all h p hp
  rw[e,rowEqB_refl] at this
  cases this
 ·intro h
  refine findP_none fun p hp=>?_
  rw[Bool.eq_false_iff]
  intro e
  exact h (List.mem_map.2 ⟨p,hp,(listEqB_iff ValueD.eqB_iff _ _).1 e⟩)
theorem partsF_keys {by_:List Int} (hb:by_≠[]) (l:List RowT):partsF by_ l=(keysE by_ l).map fun k=>(k,ofK by_ l k):=by
 induction l using snoc_ind0 with
 | h0=>unfold partsF;rw[List.foldl_nil,if_neg hb];rfl
 | h l r ih=>
  have e:partsF by_ (l++[r])=putP (keyOfR by_ r) r (partsF by_ l):=by
   unfold partsF
   rw[List.foldl_append];rfl
  have hfst:(partsF by_ l).map Prod.fst=keysE by_ l:=by rw[ih,List.map_map];exact List.map_id' _
  rw[e,keysE_snoc]
  by_cases hk:keyOfR by_ r∈keysE by_ l
  ·rw[if_pos hk]
   cases hf:findP (partsF by_ l) (keyOfR by_ r) with
   | none=>exact absurd (by rw[hfst];exact hk) (findP_iff.1 hf)
   | some i=>
    obtain⟨hi,h1,h2⟩:=findP_some hf
    have hik:=(listEqB_iff ValueD.eqB_iff _ _).1 h1
    rw[putP_hit hf hi]
    have hle:(partsF by_ l).length=(keysE by_ l).length:=by rw[ih,List.length_map]
    have hget:∀(j:Nat) (h:j<(partsF by_ l).length) (h2:j<(keysE by_ l).length),(partsF by_ l)[j]=((keysE by_ l)[j],ofK by_ l (keysE by_ l)[j]):=fun j h h2=>by
     have:(partsF by_ l)[j]? = ((keysE by_ l).map fun k=>(k,ofK by_ l k))[j]?:=by rw[ih]
     rw[List.getElem?_eq_getElem h,List.getElem?_map,List.getElem?_eq_getElem h2] at this
     exact Option.some.inj this
    refine List.ext_getElem (by rw[List.length_set,List.length_map,hle]) fun j j1 j2=>?_
    rw[List.length_set] at j1
    rw[List.length_map] at j2
    rw[List.getElem_map,List.getElem_set,ofK_snoc]
    have hi2:i<(keysE by_ l).length:=by omega
    have hgi:=hget i hi hi2
    split
    ·rename_i hij
     subst hij
     rw[hgi] at hik ⊢
     rw[if_pos hik.symm]
    ·rename_i hij
     rw[hget j j1 j2,if_neg,List.append_nil]
     intro he
     rw[hgi] at hik
     exact hij ((List.getElem_inj (keysE_nodup by_ l)).1 (by rw[← he];exact hik))
  ·rw[if_neg hk]
   have hf:findP (partsF by_ l) (keyOfR by_ r)=none:=findP_iff.2 (by rw[hfst];exact hk)
   rw[putP_new hf,List.map_append,ih]
   congr 1
   ·refine List.map_congr_left fun k hkm=>?_
    rw[ofK_snoc,if_neg (fun h:keyOfR by_ r=k=>hk (by rw[h];exact hkm)),List.append_nil]
   ·rw[List.map_singleton,ofK_snoc,ofK_none hk,if_pos rfl];rfl
theorem keyOfR_nil (r:RowT):keyOfR [] r=[]:=rfl
theorem partsF_nil (l:List RowT):partsF [] l=[([],l)]:=by
 induction l using snoc_ind0 with
 | h0=>rfl
 | h l r ih=>
  have e:partsF [] (l++[r])=putP (keyOfR [] r) r (partsF [] l):=by
   unfold partsF
   rw[List.foldl_append];rfl
  have hf:findP [(([]:RowT),l)] (keyOfR [] r)=some 0:=rfl
  rw[e,ih,putP_hit hf (Nat.zero_lt_succ _)]
  rfl
end
section
open Go.RowKit K
set_option maxRecDepth 100000
set_option maxRecDepth 100000
abbrev cloV:PV:=.d (.c (.v (.func (.func 45) #[] #[])))
abbrev minS (m x:ValueD):ValueD:=if vOrd x m<0 then x else m
abbrev maxS (m x:ValueD):ValueD:=if 0<vOrd x m then x else m
theorem fold_snoc {f:ValueD→ValueD→ValueD} {v:ValueD} {vs:List ValueD} {j:Nat} (h:j<vs.length):(vs.take (j+1)).foldl f v=f ((vs.take j).foldl f v) vs[j]:=by
 rw[take_snoc h,List.foldl_append];rfl
theorem p_min (v:ValueD) (vs:List ValueD) (h:vs.length≤1000):Pure Tryz.prog 44 [slV 3 ValueD.c (v::vs),cloV] (vV (minF (v::vs))):=by
 have hm:((v::vs).map ValueD.c).length=vs.length+1:=by rw[List.length_map,List.length_cons]
 refine pure_of Tryz.func44 (by rfl) rfl (by kernel_rfl) (by rfl) ?_
 ((conv=>whnf);repeat' ((first|(with_reducible first|apply a_|apply b_|apply c_)|((with_reducible first|apply d_|apply e_|apply f_|apply g_);focus first|omega|(simp only[q_]<;>omega))|((with_reducible first|apply i_|apply h_);focus first|omega|(simp only[q_]<;>omega))|((with_reducible apply h_);focus first|decide|kernel_rfl)|refine s_ (by decide) ?_|refine t_ (by decide) ?_|(refine Idx.mapI (l:=v::vs) 0 rfl (Nat.zero_lt_succ _) ?_)|with_reducible first|apply l_|apply m_|apply n_|apply o_|refine p_ (fun _=>?_) (fun _=>?_))<;>(conv=>whnf)))
 refine LoopC.mk Nat (fun j=>[(0,slV 3 ValueD.c (v::vs)),(1,cloV),(4,.d (.ptr 4 0)),(5,.d (.ptr 5 0)),(6,pInt .i64 ((j+1:Nat):Int))]) (fun j=>[(4,.box TV (noV.c.map D.c)),(5,.box TV (((vs.take j).foldl minS v).c.map D.c))]) [4,5] (fun j=>j≤vs.length) (fun j=>vs.length - j) 0 (Nat.zero_le _) ?start ?round
 case start=>refine⟨[(4,4),(5,5)],?_,?_,?_,?_⟩<;>repeat' (first|exact rfl|exact trivial|exact Or.inl rfl|exact PLe.int (by simp) | refine And.intro ?_ ?_)
 case round=>
  intro j hj
  have hj:j≤vs.length:=hj
  by_cases q:j<vs.length
  ·have pv:=p_vorder vs[j] ((vs.take j).foldl minS v)
   have hv:=vOrd_in vs[j] ((vs.take j).foldl minS v)
   have hs:=fold_snoc (f:=minS) (v:=v) q
   generalize hn:vOrd vs[j] ((vs.take j).foldl minS v)=n at *
   by_cases h0:n<0
   ·rw[show minS ((vs.take j).foldl minS v) vs[j]=vs[j] by unfold minS;rw[hn,if_pos h0]] at hs
    ((conv=>whnf);repeat' ((first|(with_reducible first|apply a_|apply b_|apply c_)|((with_reducible first|apply d_|apply e_|apply f_|apply g_);focus first|omega|(simp only[q_]<;>omega))|((with_reducible first|apply i_|apply h_);focus first|omega|(simp only[q_]<;>omega))|((with_reducible apply h_);focus first|decide|kernel_rfl)|refine s_ (by decide) ?_|refine t_ (by decide) ?_|(refine Idx.mapI (l:=v::vs) (j+1) (by omega) (Nat.succ_lt_succ q) ?_)|refine r_ pv rfl ?_|with_reducible first|apply l_|apply m_|apply n_|apply o_|refine p_ (fun _=>?_) (fun _=>?_))<;>(conv=>whnf)))
    all_goals first
     | exact⟨j+1,q,by omega,[(4,4),(5,5)],rfl,rfl,⟨.inl rfl,.inl rfl,⟨rfl,rfl,rfl⟩,⟨rfl,rfl,rfl⟩,PLe.int (by omega),trivial⟩,⟨rfl,kle_of rfl rfl ⟨rfl,.inl rfl,.inl rfl,.inl rfl,rfl⟩⟩,⟨rfl,kle_of rfl rfl (by rw[hs];exact⟨rfl,.inl rfl,.inl rfl,.inl rfl,rfl⟩)⟩,trivial⟩
     | (exfalso;omega)
     | skip
   ·rw[show minS ((vs.take j).foldl minS v) vs[j]=(vs.take j).foldl minS v by unfold minS;rw[hn,if_neg h0]] at hs
    ((conv=>whnf);repeat' ((first|(with_reducible first|apply a_|apply b_|apply c_)|((with_reducible first|apply d_|apply e_|apply f_|apply g_);focus first|omega|(simp only[q_]<;>omega))|((with_reducible first|apply i_|apply h_);focus first|omega|(simp only[q_]<;>omega))|((with_reducible apply h_);focus first|decide|kernel_rfl)|refine s_ (by decide) ?_|refine t_ (by decide) ?_|(refine Idx.mapI (l:=v::vs) (j+1) (by omega) (Nat.succ_lt_succ q) ?_)|refine r_ pv rfl ?_|with_reducible first|apply l_|apply m_|apply n_|apply o_|refine p_ (fun _=>?_) (fun _=>?_))<;>(conv=>whnf)))
    all_goals first
     | exact⟨j+1,q,by omega,[(4,4),(5,5)],rfl,rfl,⟨.inl rfl,.inl rfl,⟨rfl,rfl,rfl⟩,⟨rfl,rfl,rfl⟩,PLe.int (by omega),trivial⟩,⟨rfl,kle_of rfl rfl ⟨rfl,.inl rfl,.inl rfl,.inl rfl,rfl⟩⟩,⟨rfl,kle_of rfl rfl (by rw[hs];exact⟨rfl,.inl rfl,.inl rfl,.inl rfl,rfl⟩)⟩,trivial⟩
     | (exfalso;omega)
     | skip
  ·have e:vs.take j=vs:=List.take_of_length_le (by omega)
   rw[e]
   ((conv=>whnf);repeat' ((first|(with_reducible first|apply a_|apply b_|apply c_)|((with_reducible first|apply d_|apply e_|apply f_|apply g_);focus first|omega|(simp only[q_]<;>omega))|((with_reducible first|apply i_|apply h_);focus first|omega|(simp only[q_]<;>omega))|((with_reducible apply h_);focus first|decide|kernel_rfl)|refine s_ (by decide) ?_|refine t_ (by decide) ?_|with_reducible first|apply l_|apply m_|apply n_|apply o_|refine p_ (fun _=>?_) (fun _=>?_))<;>(conv=>whnf)))
   all_goals first|exact Ret.mk rfl | (exfalso;omega) | skip
theorem p_max (v:ValueD) (vs:List ValueD) (h:vs.length≤1000):Pure Tryz.prog 46 [slV 3 ValueD.c (v::vs),cloV] (vV (maxF (v::vs))):=by
 have hm:((v::vs).map ValueD.c).length=vs.length+1:=by rw[List.length_map,List.length_cons]
 refine pure_of Tryz.func46 (by rfl) rfl (by kernel_rfl) (by rfl) ?_
 ((conv=>whnf);repeat' ((first|(with_reducible first|apply a_|apply b_|apply c_)|((with_reducible first|apply d_|apply e_|apply f_|apply g_);focus first|omega|(simp only[q_]<;>omega))|((with_reducible first|apply i_|apply h_);focus first|omega|(simp only[q_]<;>omega))|((with_reducible apply h_);focus first|decide|kernel_rfl)|refine s_ (by decide) ?_|refine t_ (by decide) ?_|(refine Idx.mapI (l:=v::vs) 0 rfl (Nat.zero_lt_succ _) ?_)|with_reducible first|apply l_|apply m_|apply n_|apply o_|refine p_ (fun _=>?_) (fun _=>?_))<;>(conv=>whnf)))
 refine LoopC.mk Nat (fun j=>[(0,slV 3 ValueD.c (v::vs)),(1,cloV),(4,.d (.ptr 4 0)),(5,.d (.ptr 5 0)),(6,pInt .i64 ((j+1:Nat):Int))]) (fun j=>[(4,.box TV (noV.c.map D.c)),(5,.box TV (((vs.take j).foldl maxS v).c.map D.c))]) [4,5] (fun j=>j≤vs.length) (fun j=>vs.length - j) 0 (Nat.zero_le _) ?start ?round
 case start=>refine⟨[(4,4),(5,5)],?_,?_,?_,?_⟩<;>repeat' (first|exact rfl|exact trivial|exact Or.inl rfl|exact PLe.int (by simp) | refine And.intro ?_ ?_)
 case round=>
  intro j hj
  have hj:j≤vs.length:=hj
  by_cases q:j<vs.length
  ·have pv:=p_vorder vs[j] ((vs.take j).foldl maxS v)
   have hv:=vOrd_in vs[j] ((vs.take j).foldl maxS v)
   have hs:=fold_snoc (f:=maxS) (v:=v) q
   generalize hn:vOrd vs[j] ((vs.take j).foldl maxS v)=n at *
   by_cases h0:0<n
   ·rw[show maxS ((vs.take j).foldl maxS v) vs[j]=vs[j] by unfold maxS;rw[hn,if_pos h0]] at hs
    ((conv=>whnf);repeat' ((first|(with_reducible first|apply a_|apply b_|apply c_)|((with_reducible first|apply d_|apply e_|apply f_|apply g_);focus first|omega|(simp only[q_]<;>omega))|((with_reducible first|apply i_|apply h_);focus first|omega|(simp only[q_]<;>omega))|((with_reducible apply h_);focus first|decide|kernel_rfl)|refine s_ (by decide) ?_|refine t_ (by decide) ?_|(refine Idx.mapI (l:=v::vs) (j+1) (by omega) (Nat.succ_lt_succ q) ?_)|refine r_ pv rfl ?_|with_reducible first|apply l_|apply m_|apply n_|apply o_|refine p_ (fun _=>?_) (fun _=>?_))<;>(conv=>whnf)))
    all_goals first
     | exact⟨j+1,q,by omega,[(4,4),(5,5)],rfl,rfl,⟨.inl rfl,.inl rfl,⟨rfl,rfl,rfl⟩,⟨rfl,rfl,rfl⟩,PLe.int (by omega),trivial⟩,⟨rfl,kle_of rfl rfl ⟨rfl,.inl rfl,.inl rfl,.inl rfl,rfl⟩⟩,⟨rfl,kle_of rfl rfl (by rw[hs];exact⟨rfl,.inl rfl,.inl rfl,.inl rfl,rfl⟩)⟩,trivial⟩
     | (exfalso;omega)
     | skip
   ·rw[show maxS ((vs.take j).foldl maxS v) vs[j]=(vs.take j).foldl maxS v by unfold maxS;rw[hn,if_neg h0]] at hs
    ((conv=>whnf);repeat' ((first|(with_reducible first|apply a_|apply b_|apply c_)|((with_reducible first|apply d_|apply e_|apply f_|apply g_);focus first|omega|(simp only[q_]<;>omega))|((with_reducible first|apply i_|apply h_);focus first|omega|(simp only[q_]<;>omega))|((with_reducible apply h_);focus first|decide|kernel_rfl)|refine s_ (by decide) ?_|refine t_ (by decide) ?_|(refine Idx.mapI (l:=v::vs) (j+1) (by omega) (Nat.succ_lt_succ q) ?_)|refine r_ pv rfl ?_|with_reducible first|apply l_|apply m_|apply n_|apply o_|refine p_ (fun _=>?_) (fun _=>?_))<;>(conv=>whnf)))
    all_goals first
     | exact⟨j+1,q,by omega,[(4,4),(5,5)],rfl,rfl,⟨.inl rfl,.inl rfl,⟨rfl,rfl,rfl⟩,⟨rfl,rfl,rfl⟩,PLe.int (by omega),trivial⟩,⟨rfl,kle_of rfl rfl ⟨rfl,.inl rfl,.inl rfl,.inl rfl,rfl⟩⟩,⟨rfl,kle_of rfl rfl (by rw[hs];exact⟨rfl,.inl rfl,.inl rfl,.inl rfl,rfl⟩)⟩,trivial⟩
     | (exfalso;omega)
     | skip
  ·have e:vs.take j=vs:=List.take_of_length_le (by omega)
   rw[e]
   ((conv=>whnf);repeat' ((first|(with_reducible first|apply a_|apply b_|apply c_)|((with_reducible first|apply d_|apply e_|apply f_|apply g_);focus first|omega|(simp only[q_]<;>omega))|((with_reducible first|apply i_|apply h_);focus first|omega|(simp only[q_]<;>omega))|((with_reducible apply h_);focus first|decide|kernel_rfl)|refine s_ (by decide) ?_|refine t_ (by decide) ?_|with_reducible first|apply l_|apply m_|apply n_|apply o_|refine p_ (fun _=>?_) (fun _=>?_))<;>(conv=>whnf)))
   all_goals first|exact Ret.mk rfl | (exfalso;omega) | skip
theorem colF_in {l:List RowT} {c:Nat} {v:ValueD} (h:v∈colF l c) (hc:∀r∈l,c<r.length):∃r∈l,v∈r:=by
 unfold colF at h
 obtain⟨r,hr,rfl⟩:=List.mem_map.1 (List.mem_filter.1 h).1
 have hcr:=hc r hr
 rw[List.getElem?_eq_getElem hcr,Option.getD_some]
 exact⟨r,hr,List.getElem_mem hcr⟩
set_option maxHeartbeats 1000000 in
theorem p_tell (l:List RowT) (a:AggD) (h40:l.length≤40) (hk:1≤a.Kind∧a.Kind≤4) (hc:(a.Kind=1∧a.Col<0)∨l.length=0∨(0≤a.Col∧∀r∈l,a.Col.toNat<r.length∧r.length≤8)) (hN:∀r∈l,∀v∈r,WholeP.In64 v.N) :
  Pure Tryz.prog 17 [rwsV l,aV a] (.tup [vV (tellF l a).1,pInt .i64 (tellF l a).2]):=by
 have hml:(l.map rowC).length=l.length:=List.length_map _
 obtain⟨kd,cl⟩:=a
 have hk:1≤kd∧kd≤4:=hk
 have hc:(kd=1∧cl<0)∨l.length=0∨(0≤cl∧∀r∈l,cl.toNat<r.length∧r.length≤8):=hc
 unfold tellF
 by_cases h0:kd=1∧cl<0
 ·rw[if_pos h0,h0.1]
  exact p_tell_count l cl h0.2
 ·rw[if_neg h0]
  have hc:=hc.resolve_left h0
  obtain⟨col,hcol⟩:∃col,col=colF l cl.toNat:=⟨_,rfl⟩
  have hcl:col.length≤40:=by rw[hcol];have:=colF_len l cl.toNat;omega
  have hcN:∀v∈col,WholeP.In64 v.N:=fun v hv=>by
   rcases hc with hc | hc
   ·rw[hcol,List.eq_nil_of_length_eq_zero hc] at hv;cases hv
   ·rw[hcol] at hv
    obtain⟨r,hr,hm⟩:=colF_in hv fun r hr=>(hc.2 r hr).1
    exact hN r hr v hm
  have ps:=p_sum col (by omega) hcN
  have pc:l.length=0∨(0<l.length∧Pure Tryz.prog 42 [rwsV l,pInt .i64 cl] (slV 3 ValueD.c col)):=by
   rcases hc with hc | ⟨h1,h2⟩
   ·exact .inl hc
   ·by_cases hl:l.length=0
    ·exact .inl hl
    ·have:=p_column l cl.toNat h40 h2
     rw[show ((cl.toNat:Nat):Int)=cl by omega,← hcol] at this
     exact .inr ⟨by omega,this⟩
  rw[← hcol]
  have hmc:(col.map ValueD.c).length=col.length:=List.length_map _
  have hc0:l.length=0→col.length=0:=fun h=>by rw[hcol];have:=colF_len l cl.toNat;omega
  have pz:l.length=0→Pure Tryz.prog 43 [.d (.c (.v (.slice none 0 0)))] (.tup [vV (sumF col).1,pInt .i64 (sumF col).2]):=fun h=>by
   have:=List.eq_nil_of_length_eq_zero (hc0 h)
   rw[this] at ps ⊢
   exact ps.le ⟨.inr ⟨⟨3,rfl⟩,.inl rfl⟩,rfl⟩
  rcases (by omega:kd=1∨kd=2∨kd=3∨kd=4) with rfl | rfl | rfl | rfl
  ·rw[if_pos rfl]
   refine pure_of Tryz.func17 (by rfl) rfl (by kernel_rfl) (by rfl) ?_
   rcases pc with hl | ⟨hl,pc⟩
   ·have:=hc0 hl
    ((conv=>whnf);repeat' ((first|(with_reducible first|apply a_|apply b_|apply c_)|((with_reducible first|apply d_|apply e_|apply f_|apply g_);focus first|omega|(simp only[q_]<;>omega))|((with_reducible first|apply i_|apply h_);focus first|omega|(simp only[q_]<;>omega))|((with_reducible apply h_);focus first|decide|kernel_rfl)|refine s_ (by decide) ?_|refine t_ (by decide) ?_|with_reducible first|apply l_|apply m_|apply n_|apply o_|refine p_ (fun _=>?_) (fun _=>?_))<;>(conv=>whnf)))
    all_goals first|exact Ret.eq (by rw[this];rfl) | (exfalso;omega) | skip
   ·((conv=>whnf);repeat' ((first|(with_reducible first|apply a_|apply b_|apply c_)|((with_reducible first|apply d_|apply e_|apply f_|apply g_);focus first|omega|(simp only[q_]<;>omega))|((with_reducible first|apply i_|apply h_);focus first|omega|(simp only[q_]<;>omega))|((with_reducible apply h_);focus first|decide|kernel_rfl)|refine s_ (by decide) ?_|refine t_ (by decide) ?_|refine r_ pc rfl ?_|with_reducible first|apply l_|apply m_|apply n_|apply o_|refine p_ (fun _=>?_) (fun _=>?_))<;>(conv=>whnf)))
    all_goals first|exact Ret.eq (by rw[hmc];rfl) | (exfalso;omega) | skip
  ·rw[if_neg (show ¬(2:Int)=1 by decide),if_pos rfl]
   refine pure_of Tryz.func17 (by rfl) rfl (by kernel_rfl) (by rfl) ?_
   rcases pc with hl | ⟨hl,pc⟩
   ·have pz:=pz hl
    ((conv=>whnf);repeat' ((first|(with_reducible first|apply a_|apply b_|apply c_)|((with_reducible first|apply d_|apply e_|apply f_|apply g_);focus first|omega|(simp only[q_]<;>omega))|((with_reducible first|apply i_|apply h_);focus first|omega|(simp only[q_]<;>omega))|((with_reducible apply h_);focus first|decide|kernel_rfl)|refine s_ (by decide) ?_|refine t_ (by decide) ?_|refine r_ pz rfl ?_|with_reducible first|apply l_|apply m_|apply n_|apply o_|refine p_ (fun _=>?_) (fun _=>?_))<;>(conv=>whnf)))
    all_goals first|exact Ret.eq rfl | (exfalso;omega) | skip
   ·((conv=>whnf);repeat' ((first|(with_reducible first|apply a_|apply b_|apply c_)|((with_reducible first|apply d_|apply e_|apply f_|apply g_);focus first|omega|(simp only[q_]<;>omega))|((with_reducible first|apply i_|apply h_);focus first|omega|(simp only[q_]<;>omega))|((with_reducible apply h_);focus first|decide|kernel_rfl)|refine s_ (by decide) ?_|refine t_ (by decide) ?_|refine r_ pc rfl ?_|refine r_ ps rfl ?_|with_reducible first|apply l_|apply m_|apply n_|apply o_|refine p_ (fun _=>?_) (fun _=>?_))<;>(conv=>whnf)))
    all_goals first|exact Ret.eq rfl | (exfalso;omega) | skip
  ·rw[if_neg (show ¬(3:Int)=1 by decide),if_neg (show ¬(3:Int)=2 by decide)]
   by_cases h1:col.length=0
   ·rw[if_pos h1]
    refine pure_of Tryz.func17 (by rfl) rfl (by kernel_rfl) (by rfl) ?_
    rcases pc with hl | ⟨hl,pc⟩
    ·((conv=>whnf);repeat' ((first|(with_reducible first|apply a_|apply b_|apply c_)|((with_reducible first|apply d_|apply e_|apply f_|apply g_);focus first|omega|(simp only[q_]<;>omega))|((with_reducible first|apply i_|apply h_);focus first|omega|(simp only[q_]<;>omega))|((with_reducible apply h_);focus first|decide|kernel_rfl)|refine s_ (by decide) ?_|refine t_ (by decide) ?_|with_reducible first|apply l_|apply m_|apply n_|apply o_|refine p_ (fun _=>?_) (fun _=>?_))<;>(conv=>whnf)))
     all_goals first|exact Ret.eq rfl | (exfalso;omega) | skip
    ·((conv=>whnf);repeat' ((first|(with_reducible first|apply a_|apply b_|apply c_)|((with_reducible first|apply d_|apply e_|apply f_|apply g_);focus first|omega|(simp only[q_]<;>omega))|((with_reducible first|apply i_|apply h_);focus first|omega|(simp only[q_]<;>omega))|((with_reducible apply h_);focus first|decide|kernel_rfl)|refine s_ (by decide) ?_|refine t_ (by decide) ?_|refine r_ pc rfl ?_|with_reducible first|apply l_|apply m_|apply n_|apply o_|refine p_ (fun _=>?_) (fun _=>?_))<;>(conv=>whnf)))
     all_goals first|exact Ret.eq rfl | (exfalso;omega) | skip
   ·rw[if_neg h1,if_pos rfl]
    rcases pc with hl | ⟨hl,pc⟩
    ·exact absurd (hc0 hl) h1
    ·cases col with
     | nil=>exact absurd rfl h1
     | cons v vs=>
      have pm:=p_min v vs (by rw[List.length_cons] at hcl;omega)
      refine pure_of Tryz.func17 (by rfl) rfl (by kernel_rfl) (by rfl) ?_
      ((conv=>whnf);repeat' ((first|(with_reducible first|apply a_|apply b_|apply c_)|((with_reducible first|apply d_|apply e_|apply f_|apply g_);focus first|omega|(simp only[q_]<;>omega))|((with_reducible first|apply i_|apply h_);focus first|omega|(simp only[q_]<;>omega))|((with_reducible apply h_);focus first|decide|kernel_rfl)|refine s_ (by decide) ?_|refine t_ (by decide) ?_|refine r_ pc rfl ?_|refine r_ pm rfl ?_|with_reducible first|apply l_|apply m_|apply n_|apply o_|refine p_ (fun _=>?_) (fun _=>?_))<;>(conv=>whnf)))
      all_goals first|exact Ret.eq rfl | (exfalso;omega) | skip
  ·rw[if_neg (show ¬(4:Int)=1 by decide),if_neg (show ¬(4:Int)=2 by decide)]
   by_cases h1:col.length=0
   ·rw[if_pos h1]
    refine pure_of Tryz.func17 (by rfl) rfl (by kernel_rfl) (by rfl) ?_
    rcases pc with hl | ⟨hl,pc⟩
    ·((conv=>whnf);repeat' ((first|(with_reducible first|apply a_|apply b_|apply c_)|((with_reducible first|apply d_|apply e_|apply f_|apply g_);focus first|omega|(simp only[q_]<;>omega))|((with_reducible first|apply i_|apply h_);focus first|omega|(simp only[q_]<;>omega))|((with_reducible apply h_);focus first|decide|kernel_rfl)|refine s_ (by decide) ?_|refine t_ (by decide) ?_|with_reducible first|apply l_|apply m_|apply n_|apply o_|refine p_ (fun _=>?_) (fun _=>?_))<;>(conv=>whnf)))
     all_goals first|exact Ret.eq rfl | (exfalso;omega) | skip
    ·((conv=>whnf);repeat' ((first|(with_reducible first|apply a_|apply b_|apply c_)|((with_reducible first|apply d_|apply e_|apply f_|apply g_);focus first|omega|(simp only[q_]<;>omega))|((with_reducible first|apply i_|apply h_);focus first|omega|(simp only[q_]<;>omega))|((with_reducible apply h_);focus first|decide|kernel_rfl)|refine s_ (by decide) ?_|refine t_ (by decide) ?_|refine r_ pc rfl ?_|with_reducible first|apply l_|apply m_|apply n_|apply o_|refine p_ (fun _=>?_) (fun _=>?_))<;>(conv=>whnf)))
     all_goals first|exact Ret.eq rfl | (exfalso;omega) | skip
   ·rw[if_neg h1,if_neg (show ¬(4:Int)=3 by decide)]
    rcases pc with hl | ⟨hl,pc⟩
    ·exact absurd (hc0 hl) h1
    ·cases col with
     | nil=>exact absurd rfl h1
     | cons v vs=>
      have pm:=p_max v vs (by rw[List.length_cons] at hcl;omega)
      refine pure_of Tryz.func17 (by rfl) rfl (by kernel_rfl) (by rfl) ?_
      ((conv=>whnf);repeat' ((first|(with_reducible first|apply a_|apply b_|apply c_)|((with_reducible first|apply d_|apply e_|apply f_|apply g_);focus first|omega|(simp only[q_]<;>omega))|((with_reducible first|apply i_|apply h_);focus first|omega|(simp only[q_]<;>omega))|((with_reducible apply h_);focus first|decide|kernel_rfl)|refine s_ (by decide) ?_|refine t_ (by decide) ?_|refine r_ pc rfl ?_|refine r_ pm rfl ?_|with_reducible first|apply l_|apply m_|apply n_|apply o_|refine p_ (fun _=>?_) (fun _=>?_))<;>(conv=>whnf)))
      all_goals first|exact Ret.eq rfl | (exfalso;omega) | skip
end
section
open Go.RowKit K
set_option maxRecDepth 100000
set_option maxRecDepth 100000
theorem places_cases (l:List RowT):∀at_:List Int,placesF l at_=0∨placesF l at_=3
 | []=>.inl rfl
 | c::cs=>by
  rw[placesF]
  split
  ·exact .inr rfl
  ·exact places_cases l cs
theorem p_grouping (l:List RowT) (hr:∀r∈l,r.length≤140737488355328) (by_:List Int) (aggs:List AggD) :
  Pure Tryz.prog 15 [rwsV l,slV 1 iC by_,slV 2 AggD.c aggs] (pInt .i64 (grpG l by_ aggs)):=by
 have hmb:(by_.map iC).length=by_.length:=List.length_map _
 have hma:(aggs.map AggD.c).length=aggs.length:=List.length_map _
 refine pure_of Tryz.func15 (by rfl) rfl (by kernel_rfl) (by rfl) ?_
 unfold grpG
 by_cases h8:8<by_.length+aggs.length
 ·rw[if_pos h8]
  ((conv=>whnf);repeat' ((first|(with_reducible first|apply a_|apply b_|apply c_)|((with_reducible first|apply d_|apply e_|apply f_|apply g_);focus first|omega|(simp only[q_]<;>omega))|((with_reducible first|apply i_|apply h_);focus first|omega|(simp only[q_]<;>omega))|((with_reducible apply h_);focus first|decide|kernel_rfl)|refine s_ (by decide) ?_|refine t_ (by decide) ?_|with_reducible first|apply l_|apply m_|apply n_|apply o_|refine p_ (fun _=>?_) (fun _=>?_))<;>(conv=>whnf)))
  all_goals first|exact Ret.int rfl | (exfalso;omega)
 ·rw[if_neg h8]
  have pp:=p_places l hr by_ (by omega)
  have hpc:=places_cases l by_
  ((conv=>whnf);repeat' ((first|(with_reducible first|apply a_|apply b_|apply c_)|((with_reducible first|apply d_|apply e_|apply f_|apply g_);focus first|omega|(simp only[q_]<;>omega))|((with_reducible first|apply i_|apply h_);focus first|omega|(simp only[q_]<;>omega))|((with_reducible apply h_);focus first|decide|kernel_rfl)|refine s_ (by decide) ?_|refine t_ (by decide) ?_|with_reducible first|apply l_|apply m_|apply n_|apply o_|refine p_ (fun _=>?_) (fun _=>?_))<;>(conv=>whnf)))
  all_goals first | (exfalso;omega) | skip
  refine LoopC.mk Nat (fun k=>[(0,rwsV l),(1,slV 1 iC by_),(2,slV 2 AggD.c aggs),(23,slV 2 AggD.c aggs),(24,pInt .i64 aggs.length),(25,pInt .i64 (k:Int))]) (fun _=>[]) [] (fun k=>k≤aggs.length∧∀a∈aggs.take k,¬(a.Kind<1∨4<a.Kind)) (fun k=>aggs.length - k) 0 ⟨Nat.zero_le _,by simp⟩ ?start ?round
  case start=>exact⟨[],rfl,rfl,⟨.inl rfl,.inl rfl,.inl rfl,.inl rfl,PLe.int (by simp),.inl rfl,trivial⟩,trivial⟩
  case round=>
   rintro k ⟨hk0,hz⟩
   have hk0:k≤aggs.length:=hk0
   have hz:∀a∈aggs.take k,¬(a.Kind<1∨4<a.Kind):=hz
   by_cases q:k<aggs.length
   ·by_cases hb:aggs[k].Kind<1∨4<aggs[k].Kind
    ·rw[if_pos (List.any_eq_true.2 ⟨_,List.getElem_mem q,decide_eq_true hb⟩)]
     ((conv=>whnf);repeat' ((first|(with_reducible first|apply a_|apply b_|apply c_)|((with_reducible first|apply d_|apply e_|apply f_|apply g_);focus first|omega|(simp only[q_]<;>omega))|((with_reducible first|apply i_|apply h_);focus first|omega|(simp only[q_]<;>omega))|((with_reducible apply h_);focus first|decide|kernel_rfl)|refine s_ (by decide) ?_|refine t_ (by decide) ?_|(refine Idx.mapI k rfl q ?_)|with_reducible first|apply l_|apply m_|apply n_|apply o_|refine p_ (fun _=>?_) (fun _=>?_))<;>(conv=>whnf)))
     all_goals first|exact Ret.int rfl | (exfalso;omega)
    ·have hnext:∀a∈aggs.take (k+1),¬(a.Kind<1∨4<a.Kind):=fun a ha=>by
      rw[take_snoc q] at ha
      rcases List.mem_append.1 ha with ha | ha
      ·exact hz a ha
      ·rw[List.mem_singleton.1 ha];exact hb
     ((conv=>whnf);repeat' ((first|(with_reducible first|apply a_|apply b_|apply c_)|((with_reducible first|apply d_|apply e_|apply f_|apply g_);focus first|omega|(simp only[q_]<;>omega))|((with_reducible first|apply i_|apply h_);focus first|omega|(simp only[q_]<;>omega))|((with_reducible apply h_);focus first|decide|kernel_rfl)|refine s_ (by decide) ?_|refine t_ (by decide) ?_|(refine Idx.mapI k rfl q ?_)|with_reducible first|apply l_|apply m_|apply n_|apply o_|refine p_ (fun _=>?_) (fun _=>?_))<;>(conv=>whnf)))
     all_goals first
      | exact⟨k+1,⟨q,hnext⟩,by omega,[],rfl,rfl,⟨.inl rfl,.inl rfl,.inl rfl,.inl rfl,.inl rfl,PLe.int (by omega),trivial⟩,trivial⟩
      | (exfalso;omega)
      | skip
   ·have hall:¬(aggs.any fun a=>decide (a.Kind<1∨4<a.Kind))=true:=fun h=>by
     obtain⟨a,ha,hd⟩:=List.any_eq_true.1 h
     exact hz a (by rw[List.take_of_length_le (by omega)];exact ha) (of_decide_eq_true hd)
    rw[if_neg hall]
    obtain⟨R,hR⟩:∃R,R=if placesF l by_≠0 then placesF l by_ else aggE l aggs:=⟨_,rfl⟩
    rw[← hR]
    ((conv=>whnf);repeat' ((first|(with_reducible first|apply a_|apply b_|apply c_)|((with_reducible first|apply d_|apply e_|apply f_|apply g_);focus first|omega|(simp only[q_]<;>omega))|((with_reducible first|apply i_|apply h_);focus first|omega|(simp only[q_]<;>omega))|((with_reducible apply h_);focus first|decide|kernel_rfl)|refine s_ (by decide) ?_|refine t_ (by decide) ?_|refine r_ pp rfl ?_|with_reducible first|apply l_|apply m_|apply n_|apply o_|refine p_ (fun _=>?_) (fun _=>?_))<;>(conv=>whnf)))
    refine LoopC.mk (Nat×Int) (fun s=>[(0,rwsV l),(9,pInt .i64 s.2),(41,slV 2 AggD.c aggs),(42,pInt .i64 aggs.length),(43,pInt .i64 (s.1:Int))]) (fun _=>[]) []
     (fun s=>s.1≤aggs.length∧(s.2=0∨s.2=3)∧R=if s.2≠0 then s.2 else aggE l (aggs.drop s.1)) (fun s=>aggs.length - s.1) (0,placesF l by_) ⟨Nat.zero_le _,hpc,by rw[hR];rfl⟩ ?start2 ?round2
    case start2=>exact⟨[],rfl,rfl,⟨.inl rfl,.inl rfl,.inl rfl,PLe.int (by simp),.inl rfl,trivial⟩,trivial⟩
    case round2=>
     rintro⟨k,x⟩ ⟨hk0,hx,hz2⟩
     have hk0:k≤aggs.length:=hk0
     have hx:x=0∨x=3:=hx
     have hz2:R=if x≠0 then x else aggE l (aggs.drop k):=hz2
     by_cases q:k<aggs.length
     ·rw[List.drop_eq_getElem_cons q,aggE] at hz2
      rcases hx with rfl | rfl
      ·rw[if_neg (by decide)] at hz2
       by_cases hx:aggs[k].Kind≠1∨aggs[k].Col≠-1
       ·have pq:=p_places l hr [aggs[k].Col] (by simp)
        have hpc2:=places_cases l [aggs[k].Col]
        have hz3:R=if placesF l [aggs[k].Col]≠0 then placesF l [aggs[k].Col] else aggE l (aggs.drop (k+1)):=by
         rw[hz2]
         by_cases hp:placesF l [aggs[k].Col]≠0
         ·rw[if_pos ⟨hx,hp⟩,if_pos hp]
         ·rw[if_neg (fun h=>hp h.2),if_neg hp]
        ((conv=>whnf);repeat' ((first|(with_reducible first|apply a_|apply b_|apply c_)|((with_reducible first|apply d_|apply e_|apply f_|apply g_);focus first|omega|(simp only[q_]<;>omega))|((with_reducible first|apply i_|apply h_);focus first|omega|(simp only[q_]<;>omega))|((with_reducible apply h_);focus first|decide|kernel_rfl)|refine s_ (by decide) ?_|refine t_ (by decide) ?_|(refine Idx.mapI k rfl q ?_)|refine r_ pq rfl ?_|with_reducible first|apply l_|apply m_|apply n_|apply o_|refine p_ (fun _=>?_) (fun _=>?_))<;>(conv=>whnf)))
        all_goals first
         | exact⟨(k+1,placesF l [aggs[k].Col]),⟨q,hpc2,hz3⟩,by show aggs.length - (k+1)<aggs.length - k;omega,[],rfl,rfl,⟨.inl rfl,.inl rfl,.inl rfl,.inl rfl,PLe.int (by show _=((k+1:Nat):Int);omega),trivial⟩,trivial⟩
         | (exfalso;omega)
         | skip
       ·rw[if_neg (fun h=>hx h.1)] at hz2
        ((conv=>whnf);repeat' ((first|(with_reducible first|apply a_|apply b_|apply c_)|((with_reducible first|apply d_|apply e_|apply f_|apply g_);focus first|omega|(simp only[q_]<;>omega))|((with_reducible first|apply i_|apply h_);focus first|omega|(simp only[q_]<;>omega))|((with_reducible apply h_);focus first|decide|kernel_rfl)|refine s_ (by decide) ?_|refine t_ (by decide) ?_|(refine Idx.mapI k rfl q ?_)|with_reducible first|apply l_|apply m_|apply n_|apply o_|refine p_ (fun _=>?_) (fun _=>?_))<;>(conv=>whnf)))
        all_goals first
         | exact⟨(k+1,0),⟨q,.inl rfl,by rw[hz2];rfl⟩,by show aggs.length - (k+1)<aggs.length - k;omega,[],rfl,rfl,⟨.inl rfl,.inl rfl,.inl rfl,.inl rfl,PLe.int (by show _=((k+1:Nat):Int);omega),trivial⟩,trivial⟩
         | (exfalso;omega)
         | skip
      ·rw[if_pos (by decide)] at hz2
       ((conv=>whnf);repeat' ((first|(with_reducible first|apply a_|apply b_|apply c_)|((with_reducible first|apply d_|apply e_|apply f_|apply g_);focus first|omega|(simp only[q_]<;>omega))|((with_reducible first|apply i_|apply h_);focus first|omega|(simp only[q_]<;>omega))|((with_reducible apply h_);focus first|decide|kernel_rfl)|refine s_ (by decide) ?_|refine t_ (by decide) ?_|(refine Idx.mapI k rfl q ?_)|with_reducible first|apply l_|apply m_|apply n_|apply o_|refine p_ (fun _=>?_) (fun _=>?_))<;>(conv=>whnf)))
       all_goals first
        | exact⟨(k+1,3),⟨q,.inr rfl,by rw[hz2];rfl⟩,by show aggs.length - (k+1)<aggs.length - k;omega,[],rfl,rfl,⟨.inl rfl,.inl rfl,.inl rfl,.inl rfl,PLe.int (by show _=((k+1:Nat):Int);omega),trivial⟩,trivial⟩
        | (exfalso;omega)
        | skip
     ·have e:aggs.drop k=[]:=List.drop_of_length_le (by omega)
      rw[e,aggE] at hz2
      have hRx:R=x:=by rw[hz2];split<;>omega
      rw[hRx]
      ((conv=>whnf);repeat' ((first|(with_reducible first|apply a_|apply b_|apply c_)|((with_reducible first|apply d_|apply e_|apply f_|apply g_);focus first|omega|(simp only[q_]<;>omega))|((with_reducible first|apply i_|apply h_);focus first|omega|(simp only[q_]<;>omega))|((with_reducible apply h_);focus first|decide|kernel_rfl)|refine s_ (by decide) ?_|refine t_ (by decide) ?_|with_reducible first|apply l_|apply m_|apply n_|apply o_|refine p_ (fun _=>?_) (fun _=>?_))<;>(conv=>whnf)))
      all_goals first|exact Ret.int rfl|exact Ret.mk rfl | (exfalso;omega) | skip
end
section
open Go.RowKit
def noDef (ops:Array Oper):Bool:=ops.toList.all fun o=>match o.op with | .defer _=>false | _=>true
def okIn:Code→Bool
 | .skip=>true
 | .region _ ops _=>noDef ops
 | .seq x y=>okIn x&&okIn y
 | .cond _ x y=>okIn x&&okIn y
 | .block _ x=>okIn x
 | .exit _=>true
 | _=>false
section
variable {P:Program} {l m:Nat}
theorem opIn_of_wp {o:Oper} {a:Act} {w:World} {K:Act→World→Prop} {Q:Exit→Act→World→Prop} (hd:∀c,o.op≠.defer c) (h:o.wp P a w K Q):o.wpIn (Fence.wide.inRound l) m P a w K Q:=by
 refine⟨fun _ _=>trivial,?_⟩
 rw[Oper.semAt_eq _ _ _ hd]
 unfold Oper.wp at h
 generalize (execOp a.eval o).run P w=r at *
 cases r with
 | ok x w'=>
  cases x with
  | enter f args=>exact⟨(fun h=>by cases h),CallsIn.inRound l (callsIn_wide.2 h)⟩
  | row r args=>exact⟨(fun h=>by cases h),fun c cs _=>by
    obtain⟨v,w'',hR,hs⟩:=h c cs
    exact⟨v,w'',hR,stepsIn_wide.2 hs⟩⟩
  | _=>first|exact h|exact False.elim h
 | halt x w'=>cases x<;>exact h
theorem anyIn_of_any {md:Region.Mode} {ops:Array Oper} {Q:Exit→Act→World→Prop} (hd:∀(i:Nat) (o:Oper),ops[i]? = some o→∀c,o.op≠.defer c) (hl:¬LetsOut Q) :
  ∀(fuel:Nat) (listed:Array Bool) (a:Act) (w:World),wpAny P md ops Q fuel listed a w→wpAnyIn (Fence.wide.inRound l) m P md ops Q fuel listed a w
 | 0,_,_,_,h=>h
 | fuel+1,listed,a,w,h=>by
  refine⟨h.1,fun i hi=>?_⟩
  have h1:=h.2 i hi
  unfold wpOp at h1
  unfold wpOpIn
  cases ho:ops[i]? with
  | none=>rw[ho] at h1;exact anyIn_of_any hd hl fuel _ a w h1
  | some o=>
   rw[ho] at h1
   simp only at h1 ⊢
   split
   ·rename_i hw
    rw[if_pos hw] at h1
    rcases h1 with h1 | ⟨_,h1⟩
    ·exact Oper.wpIn_mono (fun a w=>anyIn_of_any hd hl fuel _ a w) (opIn_of_wp (hd i o ho) h1)
    ·exact absurd h1 hl
   ·rename_i hw
    rw[if_neg hw] at h1
    exact⟨fun _ _=>trivial,anyIn_of_any hd hl fuel _ _ w h1⟩
theorem listIn_of_list {ops:Array Oper} {Q:Exit→Act→World→Prop} (hl:¬LetsOut Q) :
  ∀(rest:List Oper) (a:Act) (w:World),(∀o∈rest,∀c,o.op≠.defer c)→wpList P ops Q rest a w→wpListIn (Fence.wide.inRound l) m P ops Q rest a w
 | [],_,_,_,h=>h
 | o::rest,a,w,hd,h=>by
  unfold wpList at h
  unfold wpListIn
  split
  ·rename_i hw
   rw[if_pos hw] at h
   rcases h with h | ⟨_,h⟩
   ·exact Oper.wpIn_mono (fun a w=>listIn_of_list hl rest a w fun o ho=>hd o (List.mem_cons_of_mem _ ho)) (opIn_of_wp (hd o (List.mem_cons_self ..)) h)
   ·exact absurd h hl
  ·rename_i hw
   rw[if_neg hw] at h
   exact⟨fun _ _=>trivial,listIn_of_list hl rest _ w (fun o ho=>hd o (List.mem_cons_of_mem _ ho)) h⟩
theorem noDef_out {ops:Array Oper} (h:noDef ops=true):∀(i:Nat) (o:Oper),ops[i]? = some o→∀c,o.op≠.defer c:=fun i o ho c e=>by
 have hm:o∈ops.toList:=by rw[← (Array.getElem?_eq_some_iff.1 ho).2];simp
 have:=List.all_eq_true.1 h o hm
 rw[e] at this
 cases this
theorem vcIn_out {nt:Nat} {fk:List Nat} {X:XT} {c:Ctx} (hfk:∀k,c.σ0 k≠none→k∈fk) (hc:c.Ok) (hm:P.follows .mixedOrders=true):∀(cd:Code) (e:Env) (h:Hp) (n:List Nat) (Q:Cont) (σ:Sg) (a:Act) (w:World),okIn cd=true→(∀e h n,¬Q .outgrown e h n)→
  vc P nt fk X cd e h n Q→St c nt σ e h a w→(∀k,k∉n→σ k=none)→cd.wpIn (Fence.wide.inRound l) m P (After c nt X Q) a w
 | .skip,e,h,n,Q,σ,a,w,_,ho,hv,hs,hf=>wpIn_skip ⟨e,h,n,σ,hv,hs,hf⟩
 | .region id ops draw,e,h,n,Q,σ,a,w,hk,ho,hv,hs,hf=>by
  have hl:¬LetsOut (After c nt X Q):=by rintro⟨a,w,e,h,n,σ,hq,_⟩;exact ho _ _ _ hq
  have hk:noDef ops=true:=hk
  rcases region_mid (id:=id) (Q:=After c nt X Q) hc hv (fun x e h n σ a w hx hs hf=>⟨x,rfl,e,h,n,σ,hx,hs,hf⟩) hs hf (fun e' h' n' σ' a' w' hk hs' hf'=>⟨e',h',n',σ',hk,hs',hf'⟩) with ⟨rfl,q⟩ | ⟨rfl,q⟩
  ·refine wpIn_region_list (listIn_of_list hl _ _ _ (fun o ho c=>?_) q)
   obtain⟨i,hi,he⟩:=List.getElem_of_mem ho
   refine noDef_out hk i o ?_ c
   rw[← Array.getElem?_toList,List.getElem?_eq_getElem hi,he]
  ·exact wpIn_region_any hm (anyIn_of_any (noDef_out hk) hl _ _ _ _ q)
 | .seq x y,e,h,n,Q,σ,a,w,hk,ho,hv,hs,hf=>by
  have hk:(okIn x&&okIn y)=true:=hk
  rw[Bool.and_eq_true] at hk
  refine wpIn_seq (wpIn_mono (vcIn_out (X:=X) hfk hc hm x e h n (seqK (fun e' h' n'=>vc P nt fk X y e' h' n' Q) Q) σ a w hk.1 (fun e h n=>ho e h n) hv hs hf) ?_)
  intro ex a' w' hq
  cases ex with
  | normal=>
   obtain⟨e',h',n',σ',hq,hs',hf'⟩:=hq
   exact vcIn_out hfk hc hm y e' h' n' Q σ' a' w' hk.2 ho hq hs' hf'
  | exit id=>exact hq
  | goto l=>exact hq
  | ret=>exact hq
  | panic ch=>exact hq
  | outgrown=>exact hq
 | .cond o x y,e,h,n,Q,σ,a,w,hk,ho,hv,hs,hf=>by
  have hk:(okIn x&&okIn y)=true:=hk
  rw[Bool.and_eq_true] at hk
  rw[vc_cond] at hv
  split at hv
  ·rename_i b hb
   have h1:=rep_ev hs o
   rw[hb] at h1
   have h2:=rep_v h1
   obtain⟨ht,hff⟩:=hv
   refine wpIn_cond_split h2 (fun hb'=>vcIn_out hfk hc hm x e h n Q σ a w hk.1 ho (ht hb') hs hf) (fun hb'=>vcIn_out hfk hc hm y e h n Q σ a w hk.2 ho (hff hb') hs hf)
  ·exact hv.elim
 | .block id cd,e,h,n,Q,σ,a,w,hk,ho,hv,hs,hf=>by
  refine wpIn_block (wpIn_mono (vcIn_out (X:=X) hfk hc hm cd e h n (blockK id Q) σ a w hk (fun e h n=>ho e h n) hv hs hf) ?_)
  intro ex a' w' hq
  cases ex with
  | exit id'=>
   obtain⟨e',h',n',σ',hq,hs',hf'⟩:=hq
   simp only[Exit.inBlock]
   simp only[blockK] at hq
   split at hq
   ·rename_i hb
    rw[if_pos (Nat.eq_of_beq_eq_true hb)]
    exact⟨e',h',n',σ',hq,hs',hf'⟩
   ·rename_i hb
    rw[if_neg (fun e=>by subst e;rw[Nat.beq_refl] at hb;cases hb)]
    exact⟨e',h',n',σ',hq,hs',hf'⟩
  | normal=>exact hq
  | goto l=>exact hq
  | ret=>exact hq
  | panic ch=>exact hq
  | outgrown=>exact hq
 | .exit id,e,h,n,Q,σ,a,w,_,ho,hv,hs,hf=>wpIn_exit ⟨e,h,n,σ,hv,hs,hf⟩
 | .scope _,_,_,_,_,_,_,_,hk,_,_,_,_=>by cases hk
 | .loop _,_,_,_,_,_,_,_,hk,_,_,_,_=>by cases hk
 | .ret,_,_,_,_,_,_,_,hk,_,_,_,_=>by cases hk
 | .rangeFunc _ _ _ _,_,_,_,_,_,_,_,hk,_,_,_,_=>by cases hk
 | .label _,_,_,_,_,_,_,_,hk,_,_,_,_=>by cases hk
 | .goto _,_,_,_,_,_,_,_,hk,_,_,_,_=>by cases hk
 | .refuse _,_,_,_,_,_,_,_,hk,_,_,_,_=>by cases hk
end
def SeqP {α:Type} (F:Fence) (n:Nat) (P:Program) (g:Nat) (lb:Array Value) (encs:α→Array Value) (xs:List α) (T:World→Prop):Prop:=
 ∀(l:Nat) (J Jx:List α→World→Prop) (W:World),(∀s A,J s A→T A)→(∀s A,J s A→J s A.drew)→
  (∀pre x W1,J pre W1→xs[pre.length]? = some x→YieldAt F (n - 1) P l (encs x) W1 fun e W'=>
   (e=.returned (.bool true)∧J (pre++[x]) W')∨(e=.returned (.bool false)∧Jx (pre++[x]) W'))→
  J [] W→
  CallsIn F n P g (#[.func (.yield l) #[] #[]]++lb) W fun e W'=>(∃v,e=.returned v)∧(J xs W'∨∃pre,pre <+: xs∧Jx pre W')
structure Lets (B:Nat) (A A':World):Prop where
 size:A.heap.size≤A'.heap.size
 same:∀(k:Nat) (o:Obj),A.heap[k]? = some o→B≤k→o.isCells=false→A'.heap[k]? = some o
section
variable {F:Fence} {n:Nat} {P:Program}
theorem range_plain {α:Type} {g:Operand} {ps:Array Tmp} {assign body:Code} {Q:Exit→Act→World→Prop} {a:Act} {w:World}
  (hro:F.round=none) (h1:1≤n) {gf:Nat} {lb:Array Value} (hg:a.eval g=.func (.func gf) #[] lb) (hFg:F.fn gf) (eg:∀args w,(callFunc gf args).run P w=.ok (.enter gf args) w)
  {encs:α→Array Value} {xs:List α} {T:World→Prop} (hseq:SeqP F (n - 1) P gf lb encs xs T) (hps:∀x,(encs x).size=ps.size)
  (I:List α→World→Prop) (hT:∀s A,I s A→T A) (hIp:∀s A l r r',I s A→w.heap.size≤l→A.heap[l]? = some (.loop r)→I s (A.putObj l (.loop r'))) (hIa:∀s A o,I s A→I s (A.alloc o)) (hId:∀s A,I s A→I s A.drew) (h0:I [] w) (a₁:α→Act)
  (hassign:∀(l:Nat) (x:α) (W:World) (K:Act→World→Prop),K (a₁ x) W→
   assign.wpIn (F.inRound l) (n - 1 - 1) P (Exit.then K (fun _ _ _=>False)) { tmps:=(ps.zip (encs x)).foldl (fun t (p,v)=>t.setIfInBounds p v) a.tmps,defers:=[] } W)
  (hbody:∀(l:Nat) (pre:List α) (x:α) (W:World),I pre W→xs[pre.length]? = some x→w.heap.size≤W.heap.size→body.wpIn (F.inRound l) (n - 1 - 1) P (fun e _ W'=>e=.normal∧Lets w.heap.size W W'∧I (pre++[x]) W') (a₁ x) W)
  (hdone:∀(D:Nat) (W:World),w.heap.size≤D→I xs W→W.heap[D]? = some (.deferred (some []))→Q .normal { a with defers:={ target:=.collected D,args:=#[] }::a.defers } W) :
  (Code.rangeFunc g ps assign body).wpIn F n P Q a w:=by
 refine wpIn_rangeFunc ?_
 intro fn hfn
 rw[hro]
 obtain⟨rec,hrec⟩:∃rec:LoopState→Option Code→Loop,rec=fun st pe=>{ state:=st,pending:=pe,fn,tmps:=a.tmps,params:=ps,assign,body,defers:=w.heap.size }:=⟨_,rfl⟩
 obtain⟨W1,hW1⟩:∃W1,(w.alloc (.deferred (some []))).alloc (.loop (rec .ready none))=W1:=⟨_,rfl⟩
 obtain⟨L,hL⟩:∃L,w.heap.size+1=L:=⟨_,rfl⟩
 have hL1:W1.heap[L]? = some (.loop (rec .ready none)):=by
  rw[← hW1,← hL];have:=World.alloc_heap_new (w.alloc (.deferred (some []))) (.loop (rec .ready none));rwa [World.size_alloc] at this
 have hK1:W1.heap[w.heap.size]? = some (.deferred (some [])):=by
  rw[← hW1];exact (Below.heap_alloc _ _ _ (by simp)).trans (World.alloc_heap_new w _)
 have he:=run_enterLoop_outer (P:=P) (w:=w) fn a.tmps ps assign body
 rw[show ((w.alloc (.deferred (some []))).alloc (.loop { state:=.ready,pending:=none,fn,tmps:=a.tmps,params:=ps,assign,body,defers:=w.heap.size }))=W1 by rw[← hW1,hrec],hL] at he
 refine⟨L,[{ target:=.collected w.heap.size,args:=#[] }],W1,{ target:=.fn (.func gf) lb,args:=#[.func (.yield L) #[] #[]] },W1,gf,
  #[.func (.yield L) #[] #[]]++lb,W1,he,?_,?_,?_,fun _=>h1,?_⟩
 ·simp only[resolve,hg]
  simp[go_sem]
 ·intro f' hf';simp[Target.leads] at hf';subst hf';exact hFg
 ·simp[invoke,go_sem,eg]
 let Books:Loop→World→Prop:=fun r W=>W.heap[L]? = some (.loop r)∧W.heap[w.heap.size]? = some (.deferred (some []))∧w.heap.size≤W.heap.size
 have books_put:∀{r A} (r':Loop),Books r A→Books r' (A.putObj L (.loop r')):=fun r' h=>
  ⟨World.putObj_heap_same (Array.getElem?_eq_some_iff.1 h.1).1,(World.putObj_heap_other (by omega)).trans h.2.1,by simpa using h.2.2⟩
 have hsz1:w.heap.size≤W1.heap.size:=by rw[← hW1];simp;omega
 refine (hseq L (fun pre W=>I pre W∧Books (rec .ready none) W) (fun _ _=>False) W1
  (fun s A h=>hT s A h.1) (fun s A h=>⟨hId s A h.1,h.2.1,h.2.2⟩) ?_ ⟨by rw[← hW1];exact hIa _ _ _ (hIa _ _ _ h0),hL1,hK1,hsz1⟩).mono ?_
 ·rintro pre x W ⟨hi,hb⟩ hx
  have hy:=run_yield (P:=P) (args:=encs x) hb.1 (by rw[hrec];exact hps x)
  rw[hrec] at hy
  refine⟨fn,_,assign,body,hy,roundIn_of_wpIn hfn (hassign _ x W _ ⟨_,run_beginRound hb.1 (by rw[hrec]),?_⟩)⟩
  have hb2:=books_put { rec .ready none with state:=.busy } hb
  have hi2:=hIp _ _ L _ { rec .ready none with state:=.busy } hi (by omega) hb.1
  rw[hrec] at hb2 hi2 ⊢
  refine wpIn_mono (hbody _ pre x _ hi2 hx hb2.2.2) ?_
  rintro e a3 W3 ⟨rfl,hk,hi3⟩
  have h3:=hk.same _ _ hb2.1 (by omega) rfl
  have h3k:=hk.same _ _ hb2.2.1 (Nat.le_refl _) rfl
  have hr:=run_endRound (P:=P) none h3
  refine⟨_,_,hr,.inl ⟨rfl,hIp _ _ L _ _ hi3 (by omega) h3,?_,?_,?_⟩⟩
  ·exact World.putObj_heap_same (Array.getElem?_eq_some_iff.1 h3).1
  ·exact (World.putObj_heap_other (by omega)).trans h3k
  ·have:=hk.size;have:=hb2.2.2;simp at *;omega
 ·rintro e W2 ⟨⟨v,rfl⟩,(⟨hi,hb⟩ | ⟨pre,hpre,h⟩)⟩
  ·refine⟨none,_,by have:=run_endLoop (P:=P) hb.1 (by rw[hrec];simp);rw[hrec] at this;exact this,hdone _ _ (Nat.le_refl _) (hIp _ _ L _ _ hi (by omega) hb.1) ?_⟩
   exact (World.putObj_heap_other (by omega)).trans hb.2.1
  ·exact h.elim
end
end
section
open Go.RowKit K
attribute [local go_sem] Oper.semAt_some
def prs {α β:Type} (xa:List α) (xb:List β):List (α×β):=xa.flatMap fun x=>xb.map fun y=>(x,y)
theorem prs_snoc {α β:Type} (xa:List α) (xb:List β) {k:Nat} (hk:k<xa.length):prs (xa.take (k+1)) xb=prs (xa.take k) xb++xb.map fun y=>(xa[k],y):=by
 unfold prs;rw[List.take_succ_eq_append_getElem hk,List.flatMap_append];simp
theorem prs_cut {α β:Type} (xa:List α) (xb:List β) {k:Nat} (hk:k<xa.length):prs xa xb=prs (xa.take k) xb++((xb.map fun y=>(xa[k],y))++prs (xa.drop (k+1)) xb):=by
 unfold prs
 conv=>lhs;rw[← List.take_append_drop k xa,List.drop_eq_getElem_cons hk]
 rw[List.flatMap_append,List.flatMap_cons]
theorem prs_at {α β:Type} (xa:List α) (xb:List β) {k j:Nat} (hk:k<xa.length) (hj:j<xb.length) :
  (prs xa xb)[(prs (xa.take k) xb++(xb.take j).map fun y=>(xa[k],y)).length]? = some (xa[k],xb[j]):=by
 rw[prs_cut xa xb hk,List.length_append,List.getElem?_append_right (by omega),List.length_map,List.length_take,Nat.min_eq_left (by omega),Nat.add_sub_cancel_left,List.getElem?_append_left (by simpa using hj)]
 simp[hj]
theorem map_snoc {α β:Type} (f:α→β) (l:List α) {j:Nat} (hj:j<l.length):(l.take (j+1)).map f=(l.take j).map f++[f l[j]]:=by
 rw[List.take_succ_eq_append_getElem hj,List.map_append];rfl
set_option maxRecDepth 100000 in
set_option maxHeartbeats 1000000 in
theorem pairs_any (n:Nat) (k1 k2 la lb ca cb:Nat) (a b:Option Addr) (xa xb:List Value) :
  SeqP Fence.wide n Tryz.prog 77 #[.pointer (some ⟨k1,0,none⟩),.pointer (some ⟨k2,0,none⟩)] (fun x:Value×Value=>#[x.1,x.2]) (prs xa xb)
   (fun W=>Seen W (.slice a la ca) la 1 xa∧Seen W (.slice b lb cb) lb 1 xb∧W.cell? ⟨k1,0,none⟩=some (.slice a la ca)∧W.cell? ⟨k2,0,none⟩=some (.slice b lb cb)):=by
 intro l J Jx W hT hD hY h0
 refine callsIn_of_wp Tryz.func77 rfl trivial ?_ rfl
 simp only[Tryz.ntmps77,List.size_toArray,List.length_cons,List.length_nil,Nat.reduceAdd,Nat.reduceSub,Array.replicate_succ,Array.replicate_zero,List.push_toArray,List.append_toArray,List.nil_append,List.cons_append]
 obtain⟨hA,hB,hc1,hc2⟩:=hT _ _ h0
 obtain⟨ha0,a',ca',ha1,ha2,ha3,_,ha4⟩:=hA
 obtain⟨hb0,b',cb',hb1,hb2,hb3,_,hb4⟩:=hB
 unfold maxLen at ha3 hb3
 simp only[Value.slice.injEq,true_and] at ha1 hb1
 obtain⟨rfl,rfl⟩:=ha1
 obtain⟨rfl,rfl⟩:=hb1
 have hal:xa.length=la:=by omega
 have hbl:xb.length=lb:=by omega
 clear hb4 ha4
 gi_wp2
 gi_loopw [10] (fun i wr=>∃k:Nat,k≤la∧i=.int .i64 (k:Int)∧J (prs (xa.take k) xb) wr) (fun i _=>la - (intOf i).toNat)
 case atStart=>exact⟨0,by omega,rfl,h0⟩
 case round=>
  obtain⟨k,hk,rfl,hj⟩:=hrel
  obtain⟨hA,hB,hc1,hc2⟩:=hT _ _ hj
  by_cases h:k<la
  ·obtain⟨_,a',ca',ha1,_,_,_,ha4⟩:=hA
   simp only[Value.slice.injEq,true_and] at ha1
   obtain⟨rfl,rfl⟩:=ha1
   obtain⟨ba,oa,rfl,hba,hcl⟩:=ha4.resolve_left (by omega)
   have hx:=hcl k xa[k] (by simp[hal,h])
   gi_wp2
   gi_loopw [16] (fun i wr=>∃j:Nat,j≤lb∧i=.int .i64 (j:Int)∧J (prs (xa.take k) xb++(xb.take j).map fun y=>(xa[k],y)) wr) (fun i _=>lb - (intOf i).toNat)
   case atStart=>exact⟨0,by omega,rfl,by simpa using hj⟩
   case round=>
    obtain⟨j,hjl,rfl,hj2⟩:=hrel
    obtain⟨hA,hB,hc1,hc2⟩:=hT _ _ hj2
    by_cases h2:j<lb
    ·obtain⟨_,b',cb',hb1,_,_,_,hb4⟩:=hB
     simp only[Value.slice.injEq,true_and] at hb1
     obtain⟨rfl,rfl⟩:=hb1
     obtain⟨bb,ob,rfl,hbb,hcl2⟩:=hb4.resolve_left (by omega)
     have hy:=hcl2 j xb[j] (by simp[hbl,h2])
     obtain⟨fn,tmps,assign,body,hyl,hR⟩:=hY _ _ _ hj2 (prs_at xa xb (by omega) (by omega))
     dsimp only at hyl
     gi_wp2
     refine⟨(fun h=>by cases h),hR.mono ?_⟩
     rintro e W3 (⟨rfl,hJ3⟩ | ⟨rfl,hJx3⟩)
     ·gi_wp2
      go_roundw
      case rel=>exact⟨j+1,by omega,by go_num,by rw[map_snoc _ _ (by omega),← List.append_assoc];exact hJ3⟩
      case measure=>simp[intOf];omega
     ·gi_wp2
      refine bodyPost_ret (results_none rfl _ _ _) rfl ?_
      refine⟨⟨_,rfl⟩,.inr ⟨_,?_,hJx3⟩⟩
      rw[List.append_assoc,← map_snoc (fun y=>(xa[k],y)) xb (by omega),prs_cut xa xb (k:=k) (by omega)]
      refine List.prefix_append_right_inj _ |>.2 ?_
      refine List.IsPrefix.trans ?_ (List.prefix_append _ _)
      exact List.IsPrefix.map _ (List.take_prefix _ _)
    ·obtain rfl:j=lb:=by omega
     gi_wp2
     go_roundw
     case rel=>exact⟨k+1,by omega,by go_num,by rw[prs_snoc xa xb (by omega)];rw[List.take_of_length_le (l:=xb) (by omega)] at hj2;exact hj2⟩
     case measure=>simp[intOf];omega
  ·obtain rfl:k=la:=by omega
   gi_wp2
   go_end0
   rw[List.take_of_length_le (by omega)] at hj
   exact⟨⟨_,rfl⟩,.inl hj⟩
end
section
open Go.RowKit
def seqs:List Code→Code→Code
 | [],t=>t
 | c::l,t=>.seq c (seqs l t)
noncomputable def vcPre (P:Program) (nt:Nat) (fk:List Nat) (X:XT):List Code→(Env→Hp→List Nat→Prop)→Cont→Env→Hp→List Nat→Prop
 | [],N,_,e,h,n=>N e h n
 | c::l,N,Q,e,h,n=>vc P nt fk X c e h n (seqK (fun e h n=>vcPre P nt fk X l N Q e h n) Q)
section
variable {P:Program}
theorem sw_df {c:Ctx} {σ:Sg} {h:Hp} {w:World} (hs:SW c σ h w) (d:List Deferred) (s:Sg) (hsg:∀k x,s k=some x→σ k=some x):SW { c with df:=d,σ0:=s } σ h w:=
 ⟨hs.os,hs.tape,hs.output,hs.size,hs.block,hs.hp,hs.inj,hs.kept,hs.shape,hsg⟩
theorem ctx_df {c:Ctx} (hc:c.Ok) (d:List Deferred) (s:Sg):Ctx.Ok { c with df:=d,σ0:=s }:=⟨hc.fz,hc.gl,hc.gb⟩
end
end
section
open Go.RowKit K
set_option maxRecDepth 100000
set_option maxRecDepth 100000
abbrev TT:Nat:=22
abbrev TE:Nat:=33
abbrev nilC:D:=.c (.v (.slice none 0 0))
abbrev r0:Rf:=[(9,.box TT [nilC])]
abbrev hR (rows:List (List C)):Rf:=[(9,.box TT [.app 60 TE 1 rows]),(60,.tail TE 1)]
abbrev hR' (rows:List (List C)):Rf:=[(9,.box TT [.app 61 TE 1 rows]),(61,.tail TE 1)]
theorem flat_one {α:Type}:∀A:List α,(A.map fun c=>[c]).flatten=A
 | []=>rfl
 | x::xs=>by rw[List.map_cons,List.flatten_cons,flat_one xs];rfl
theorem csRep_get2 {F:Fzn} {w:World}:∀{A:List C} {us:List Value} {i:Nat} {c:C} {u:Value},CsRep F w A us→A[i]? = some c→us[i]? = some u→CRep F w c u
 | A,us,i,c,u,h,h1,h2=>by
  obtain⟨v,q1,q2⟩:=h.get h1
  rw[h2] at q1;cases q1;exact q2
theorem prs_rep {F:Fzn} {w:World}:∀{A B:List C} {xa xb:List Value},CsRep F w A xa→CsRep F w B xb→∀(i:Nat) (p:Value×Value),(prs xa xb)[i]? = some p→∃q,(prs A B)[i]? = some q∧CRep F w q.1 p.1∧CRep F w q.2 p.2
 | [],B,xa,xb,hA,hB,i,p,hp=>by rw[csRep_nil_inv hA] at hp;simp[prs] at hp
 | x::A,B,xa,xb,hA,hB,i,p,hp=>by
  obtain⟨u,vs,rfl,h1,h2⟩:=csRep_inv hA
  have e1:prs (u::vs) xb=(xb.map fun y=>(u,y))++prs vs xb:=by unfold prs;rw[List.flatMap_cons]
  have e2:prs (x::A) B=(B.map fun y=>(x,y))++prs A B:=by unfold prs;rw[List.flatMap_cons]
  have hl:=hB.len
  rw[e1] at hp
  rw[e2]
  by_cases hi:i<xb.length
  ·rw[List.getElem?_append_left (by simpa using hi)] at hp
   rw[List.getElem?_append_left (by rw[List.length_map];omega)]
   rw[List.getElem?_map,List.getElem?_eq_getElem hi] at hp
   simp only[Option.map_some,Option.some.injEq] at hp
   subst hp
   have hi2:i<B.length:=by omega
   refine⟨(x,B[i]),by rw[List.getElem?_map,List.getElem?_eq_getElem hi2];rfl,h1,csRep_get2 hB (List.getElem?_eq_getElem hi2) (List.getElem?_eq_getElem hi)⟩
  ·rw[List.getElem?_append_right (by rw[List.length_map];omega),List.length_map] at hp
   rw[List.getElem?_append_right (by rw[List.length_map];omega),List.length_map,← hl]
   exact prs_rep h2 hB _ p hp
theorem prs_len {α β:Type} (A:List α) (B:List β):(prs A B).length=A.length*B.length:=by
 unfold prs
 induction A with
 | nil=>simp
 | cons x xs ih=>rw[List.flatMap_cons,List.length_append,ih,List.length_map,List.length_cons,Nat.add_mul];omega
section
variable {c:Ctx} {σ:Sg} {h:Hp} {w:World}
theorem fz_box (hc:c.Ok) (hs:SW c σ h w) {b o g n k T:Nat} {l:List D} (hf:fz c σ h w b o) (hk:h k=some (.box T l)) (hσ:σ k=some (some g,n)):b≠g:=by
 rintro rfl
 have hb:=hb_block (hs.hp k _ hk) hσ
 rcases hf with ⟨f1,f2⟩ | ⟨f1,f2,f3⟩
 ·rcases hb.2 with q | q
  ·omega
  ·exact (hc.fz _ _ f2).2 q
 ·exact f3 k n _ hk hσ
theorem box_seen (hc:c.Ok) (hs:SW c σ h w) {k T g9 n9 T9:Nat} {l9:List D} {A:List C} (hk:h k=some (.box T [.c (.sl 1 (A.map fun c=>[c]))])) (h9:h 9=some (.box T9 l9)) (hσ9:σ 9=some (some g9,n9)) (hne:k≠9) :
  ∃(g n cap:Nat) (a:Option Addr) (us:List Value),σ k=some (some g,n)∧CsRep (fz c σ h w) w A us∧
   ∀W:World,w.heap.size≤W.heap.size→(∀b,b<w.heap.size→b≠g9→W.heap[b]? = w.heap[b]?)→Seen W (.slice a A.length cap) A.length 1 us∧W.cell? ⟨g,0,none⟩=some (.slice a A.length cap):=by
 obtain⟨g,n,cs,q1,q2,q3,q4⟩:=hs.hp k _ hk
 have hgg:g≠g9:=by
  rintro rfl
  exact hne (hs.inj k 9 g n n9 (by rw[hk];simp) (by rw[h9];simp) q1 hσ9)
 have hglt:g<w.heap.size:=(Array.getElem?_eq_some_iff.1 q3).1
 obtain⟨va,vs,e1,p1,p2⟩:=dsRep_inv q4
 have e2:=dsRep_nil_inv p2
 subst e2
 unfold DRep CRep at p1
 obtain⟨a,cap,rfl,c1,c2,c3,c4⟩:=p1
 rw[List.length_map] at c1
 have hcell:∀W:World,W.heap[g]? = w.heap[g]?→W.cell? ⟨g,0,none⟩=some (.slice a A.length cap):=by
  intro W hW
  rw[cell_of_row W g 0 cs T (0,0) (hW.trans q3)]
  have:cs=#[.slice a (A.map fun c=>[c]).length cap]:=by rw[← Array.toArray_toList (xs:=cs),e1]
  rw[this,List.length_map];rfl
 rcases c4 with c4 | ⟨b,off,rfl,c5⟩
 ·have hA:A=[]:=by simpa using c4
  subst hA
  exact⟨g,n,cap,a,[],q1,csRep_nil,fun W hle hW=>⟨⟨rfl,a,cap,rfl,c1,c2,c3,.inl rfl⟩,hcell W (hW g hglt hgg)⟩⟩
 ·obtain⟨_,c6⟩:=rowsAt_iff.1 c5
  rw[flat_one] at c6
  obtain⟨us,u1,u2,u3⟩:=csAt_values c6
  refine⟨g,n,cap,_,us,q1,u1,fun W hle hW=>⟨⟨by rw[u1.len,Nat.mul_one],_,cap,rfl,c1,c2,c3,?_⟩,hcell W (hW g hglt hgg)⟩⟩
  by_cases hz:A.length=0
  ·exact .inl hz
  ·have hf0:=u3 0 (by omega)
   have hb1:=fz_lt hs hf0
   have hb2:=fz_box hc hs hf0 h9 hσ9
   refine .inr ⟨b,off,rfl,by omega,fun j u hu=>?_⟩
   have:=u2 j u hu
   unfold World.cell? at this ⊢
   rw[hW b hb1 hb2];exact this
theorem sw_other (hs:SW c σ h w) {l:Nat} {o o':Obj} (hl:c.n0≤l) (ho:w.heap[l]? = some o) (hn:o.isCells=false) (hm:∀es cl,o≠.map es cl) (hn':o'.isCells=false) :
  Evo σ σ (fz c σ h w) (fz c σ h (w.putObj l o')) w (w.putObj l o')∧SW c σ h (w.putObj l o'):=by
 have hlt:l<w.heap.size:=(Array.getElem?_eq_some_iff.1 ho).1
 have hsz:(w.putObj l o').heap.size=w.heap.size:=by simp
 have hcellN:∀(W:World) (q:Obj) (off:Nat),W.heap[l]? = some q→q.isCells=false→W.cell? ⟨l,off,none⟩=none:=by
  intro W q off hq hc
  unfold World.cell?
  rw[hq]
  cases q<;>simp_all [Obj.isCells]
 have hnew:(w.putObj l o').heap[l]? = some o':=World.putObj_heap_same hlt
 have ev:Evo σ σ (fz c σ h w) (fz c σ h (w.putObj l o')) w (w.putObj l o'):=by
  refine⟨fun _ _ h=>h,⟨fun b o hf=>?_,fun b off hf=>?_⟩,fun g cur e fr hg=>⟨cur,fr,?_,rfl⟩⟩
  ·unfold fz;rw[hsz];exact hf
  ·by_cases q:b=l
   ·subst q;rw[hcellN _ _ _ hnew hn',hcellN _ _ _ ho hn]
   ·unfold World.cell?
    rw[World.putObj_heap_other q]
  ·have:g≠l:=by rintro rfl;rw[ho] at hg;cases hg;cases hn
   rw[World.putObj_heap_other this];exact hg
 refine⟨ev,hs.os,hs.tape,hs.output,by rw[hsz];exact hs.size,fun b h1 h2=>?_,fun k hb hk=>(hs.hp k hb hk).evo ev fun g n hg=>?_,hs.inj,hs.kept.trans ev.keeps,hs.shape.trans ev.shape,hs.sg0⟩
 ·rw[World.putObj_heap_other (by omega)];exact hs.block b h1 h2
 ·refine World.putObj_heap_other ?_
  rintro rfl
  have:=hs.hp k hb hk
  cases hb with
  | box bt l=>obtain⟨g',n',cs,h1,h2,h3,h4⟩:=this;rw[hg] at h1;cases h1;rw[ho] at h3;cases h3;cases hn
  | tail e sz=>
   obtain⟨_,ob,n',h1,h2⟩:=this
   rw[hg] at h1;cases h1
   obtain⟨_,cur,h3⟩:=h2
   rw[ho] at h3;cases h3;cases hn
  | arr e sz rows=>
   obtain⟨_,_,ob,n',h1,h2⟩:=this
   rw[hg] at h1;cases h1
   obtain⟨_,cur,h3,_⟩:=h2
   rw[ho] at h3;cases h3;cases hn
  | mp l=>obtain⟨g',n',es,cl,h1,h2,h3,h4⟩:=this;rw[hg] at h1;cases h1;rw[ho] at h3;cases h3;exact hm _ _ rfl
  | darr e sz rows=>
   obtain⟨_,_,ob,n',h1,h2⟩:=this
   rw[hg] at h1;cases h1
   obtain⟨_,cur,h3,_⟩:=h2
   rw[ho] at h3;cases h3;cases hn
end
theorem app_delta {rf out:Rf} (hn:ndK out=true):Dl.app (hpL rf) (deltaOf rf out)=hpL out:=by
 funext k
 unfold deltaOf
 rw[app_append]
 by_cases hk:∃b,(k,b)∈out
 ·obtain⟨b,hb⟩:=hk
  rw[app_somes_in (b:=b) (fun b' hb'=>by have e1:=mem_hpL hn hb;have e2:=mem_hpL hn hb';rw[e1] at e2;cases e2;rfl) hb,mem_hpL hn hb]
 ·rw[app_somes_out hk]
  have hno:hpL out k=none:=by
   cases q:hpL out k with
   | none=>rfl
   | some b=>exact absurd ⟨b,hpL_mem q⟩ hk
  rw[hno]
  refine app_nones_in ?_
  by_cases hr:∃b,(k,b)∈rf
  ·exact .inr hr
  ·refine .inl ?_
   cases q:hpL rf k with
   | none=>rfl
   | some b=>exact absurd ⟨b,hpL_mem q⟩ hr
def roundE (rows:List (List C)):Cont:=fun x e h n=>match x with
 | .normal=>∃n',Wk [9,60] e h [] (hR' rows) n'
 | _=>False
abbrev env9:Env:=ofL [(9,.d (.ptr 9 0))]
abbrev envX (x y:C):Env:=upd (upd (upd (upd env9 43 (.d (.c x))) 44 (.d (.c y))) 10 (.d (.c x))) 11 (.d (.c y))
def isAssign (o:Oper) (d s:Nat):Prop:=o.op=.assign (.tmp s)∧o.dst=some d∧o.guard=none
section
variable {P:Program} {nt:Nat} {c:Ctx} {σ:Sg} {e:Env} {h:Hp} {a:Act} {w:World}
theorem assign_in {l m id d s:Nat} {o:Oper} (ho:isAssign o d s) {Q:Exit→Act→World→Prop} {a:Act} {w:World} (h:Q .normal (a.put (some d) (a.eval (.tmp s))) w):(Code.region id #[o] false).wpIn (Fence.wide.inRound l) m P Q a w:=by
 refine wpIn_region_list ?_
 show wpListIn _ _ _ _ _ [o] a w
 unfold wpListIn
 rw[if_pos (by unfold Region.wanted;rw[ho.2.2])]
 refine opIn_of_wp (fun c e=>by rw[ho.1] at e;cases e) ?_
 unfold Oper.wp
 have e1:(execOp a.eval o).run P w=.ok (.value (a.eval (.tmp s))) w:=by simp[execOp,ho.1]
 rw[e1]
 show wpListIn (Fence.wide.inRound l) m P #[o] Q [] (a.put o.dst _) w
 rw[ho.2.1]
 exact h
theorem key_cells {rows:List (List C)} (hs:SW c σ (hpL (hR rows)) w) {k b m:Nat} {hb:HB} (hk:(k,hb)∈hR rows) (hσ:σ k=some (some b,m)):∃cs e fr,w.heap[b]? = some (.cells cs e fr):=by
 have:=hs.hp k hb (mem_hpL (by rfl) hk)
 rcases List.mem_cons.1 hk with q | q
 ·cases q
  obtain⟨g,n,cs,h1,h2,h3,h4⟩:=this
  rw[hσ] at h1;cases h1
  exact⟨_,_,_,h3⟩
 ·rw[List.mem_singleton] at q
  cases q
  obtain⟨_,ob,n',h1,h2⟩:=this
  rw[hσ] at h1;cases h1
  obtain⟨_,cur,h3⟩:=h2
  exact⟨_,_,_,h3⟩
theorem rep_any {σ:Sg} {F:Fzn} {w:World} {u:Value}:PRep σ F w .any u:=by unfold PRep;trivial
theorem range_out (hc:c.Ok) (hm:P.follows .mixedOrders=true) (hs:St c nt σ e h a w) {g:Operand} {gf:Nat} {lb:Array Value} {body:Code} {id1 id2:Nat} {o1 o2:Oper} {Q:Exit→Act→World→Prop}
  (hg:a.eval g=.func (.func gf) #[] lb) (eg:∀args w,(callFunc gf args).run P w=.ok (.enter gf args) w)
  (h9e:e 9=.d (.ptr 9 0)) (h9:h 9=some (.box TT [nilC])) (h60:σ 60=none) (hnt:44<nt) (ha1:isAssign o1 10 43) (ha2:isAssign o2 11 44)
  {A B:List C} {xa xb:List Value} (hA:CsRep (fz c σ h w) w A xa) (hB:CsRep (fz c σ h w) w B xb) {T0:World→Prop}
  (hseq:SeqP Fence.wide 5 P gf lb (fun x:Value×Value=>#[x.1,x.2]) (prs xa xb) T0)
  (hT0:∀W,w.heap.size≤W.heap.size→(∀b,b<w.heap.size→(∀n,σ 9≠some (some b,n))→W.heap[b]? = w.heap[b]?)→T0 W)
  (f:C×C→List C) (hok:okIn body=true)
  (hround:∀(i:Nat) (p:C×C),(prs A B)[i]? = some p→vc P nt [9,60] (fun _ _ _ _=>False) body (envX p.1 p.2) (hpL (hR (((prs A B).take i).map f))) [9,60] (roundE (((prs A B).take (i+1)).map f)))
  (hdone:∀(D:Nat) (W:World) (σ':Sg),w.heap.size≤D→W.heap[D]? = some (.deferred (some []))→
   Evo σ σ' (fz c σ h w) (fz c σ' (Dl.app h (deltaOf r0 (hR ((prs A B).map f)))) W) w W→SW c σ' (Dl.app h (deltaOf r0 (hR ((prs A B).map f)))) W→(∀k,k∉[9,60]→σ k=none→σ' k=none)→
   Q .normal { a with defers:={ target:=.collected D,args:=#[] }::a.defers } W) :
  (Code.rangeFunc g #[43,44] ((Code.region id1 #[o1] false).seq (Code.region id2 #[o2] false)) body).wpIn Fence.wide 6 P Q a w:=by
 have hnm:namesOk [(9,9),(60,60)] [] r0 (hR ((prs A B).map f))=true:=rfl
 have hr1:RR [(9,9),(60,60)] r0 r0:=⟨_,_,_,rfl,rfl,rfl,rfl⟩
 have hr2:∀rows,RR [(9,9),(60,60)] (hR rows) (hR rows):=fun rows=>⟨_,_,_,rfl,rfl,rfl,_,_,_,rfl,rfl,rfl,rfl⟩
 have hin:∀p∈([]:Rf)++r0,h p.1=some p.2:=by
  intro p hp
  rw[List.nil_append,List.mem_singleton] at hp
  subst hp;exact h9
 have hσ9:∃g9 n9,σ 9=some (some g9,n9):=by
  obtain⟨g,n,cs,q1,_⟩:=hs.hp 9 _ h9
  exact⟨g,n,q1⟩
 obtain⟨g9,n9,hσ9⟩:=hσ9
 have hfr:Fresh σ (deltaOf r0 (hR ((prs A B).map f))) ([]++r0):=by
  intro k hk hno
  have:k=9∨k=60:=by simpa [Dl.keys,deltaOf] using hk
  rcases this with rfl | rfl
  ·exact absurd rfl (hno (9,.box TT [nilC]) (by simp))
  ·exact h60
 obtain⟨hCo,hCfr,hCk,hCs,fin⟩:=frame_world (res0:=.any) (res:=.any) hnm (rfl:RR [(9,9),(60,60)] [] []) hr1 (hr2 _) (by unfold renP;rfl) hc hs.toSW hin hfr
 obtain⟨C,hC⟩:∃C,C=calleeC c [(9,9),(60,60)] σ h w ([]++r0):=⟨_,rfl⟩
 have hCw:C.w0=w:=by rw[hC];rfl
 have hCσ:C.σ0=sg0 [(9,9),(60,60)] σ:=by rw[hC];rfl
 have hCF:C.F1=fz c σ h w:=by rw[hC];rfl
 have hC9:C.σ0 9=σ 9:=by rw[hCσ];rfl
 have hCn:∀k,k∉[9]→C.σ0 k=none:=fun k hk=>by rw[hCσ];exact hCfr k (by simpa using hk)
 have hCfk:∀k,C.σ0 k≠none→k∈[9]:=fun k hk=>Classical.byContradiction fun q=>hk (hCn k q)
 have hCe:∀b,C.ext b→∃n,σ 9=some (some b,n):=by
  rintro b hb
  rw[hC] at hb
  obtain⟨k,hb',m,q1,q2⟩:=hb
  have:=hpL_mem q1
  rw[List.nil_append,List.mem_singleton] at this
  cases this
  exact⟨m,q2⟩
 rw[← hC] at hCo hCk hCs fin
 rw[← hCσ] at hCk hCs
 have hCn0:C.n0=w.heap.size:=by show C.w0.heap.size=_;rw[hCw]
 have hpx:=prs_rep hA hB
 have hlen:(prs xa xb).length=(prs A B).length:=by rw[prs_len,prs_len,hA.len,hB.len]
 have h9v:a.tmps.getD 9 undef=.pointer (some ⟨g9,0,none⟩):=by
  have:=hs.env 9
  rw[h9e] at this
  unfold PRep DRep at this
  obtain⟨g,n,q1,q2⟩:=this
  rw[hσ9] at q1;cases q1;exact q2
 refine range_plain (a₁:=fun x=>(((({ tmps:=a.tmps,defers:=[] }:Act).put (some 43) x.1).put (some 44) x.2).put (some 10) x.1).put (some 11) x.2) rfl (by decide) hg trivial eg hseq (fun _=>rfl)
  (fun pre W=>∃σ',SW C σ' (hpL (hR (((prs A B).take pre.length).map f))) W∧∀k,k∉[9,60]→σ' k=none) ?hT ?hIp ?hIa ?hId ?h0 ?assign ?body ?done
 case hT=>
  rintro s W ⟨σ',q1,_⟩
  refine hT0 W (by have:=q1.size;omega) fun b hb hne=>?_
  have:=q1.block b (by omega) (fun he=>by obtain⟨n,q⟩:=hCe b he;exact hne n q)
  rw[hCw] at this;exact this
 case hIp=>
  rintro s W l r r' ⟨σ',q1,q2⟩ hl hr
  exact⟨σ',(sw_other q1 (by omega) hr rfl (fun _ _ e=>by cases e) rfl).2,q2⟩
 case hIa=>
  rintro s W o ⟨σ',q1,q2⟩
  exact⟨σ',sw_below q1 ((Below.refl _ W).alloc (Nat.le_refl _) o),q2⟩
 case hId=>
  rintro s W ⟨σ',q1,q2⟩
  exact⟨σ',sw_below q1 (Below.refl _ W).drew,q2⟩
 case h0=>
  obtain⟨_,q⟩:=sw_wk (fk:=[9]) (f:=fnL [(9,9)]) (n:=[9,60]) (lh:=hR []) hCfk hCs rfl rfl ⟨⟨rfl,rfl,⟨rfl,rfl,Nat.zero_lt_succ _,rfl,rfl⟩,rfl⟩,⟨rfl,Nat.zero_lt_succ _⟩,trivial⟩
  exact⟨_,q,fun k hk=>by unfold newSg;rw[if_neg fun e=>hk (kin_mem e)]⟩
 case assign=>
  intro l x W K hK
  have hact:({ tmps:=((#[43,44]:Array Tmp).zip #[x.1,x.2]).foldl (fun t (p,v)=>t.setIfInBounds p v) a.tmps,defers:=[] }:Act)=(({ tmps:=a.tmps,defers:=[] }:Act).put (some 43) x.1).put (some 44) x.2:=by simp[Act.put]
  rw[hact]
  refine wpIn_seq (assign_in ha1 ?_)
  refine assign_in ha2 ?_
  have hn:=hs.nt
  have e1:((({ tmps:=a.tmps,defers:=[] }:Act).put (some 43) x.1).put (some 44) x.2).eval (.tmp 43)=x.1:=by
   simp[Act.eval,Act.put,hn,Array.getElem?_setIfInBounds,show 43<nt by omega]
  have e2:(((({ tmps:=a.tmps,defers:=[] }:Act).put (some 43) x.1).put (some 44) x.2).put (some 10) x.1).eval (.tmp 44)=x.2:=by
   simp[Act.eval,Act.put,hn,Array.getElem?_setIfInBounds,show 44<nt by omega]
  rw[e1,e2]
  exact hK
 case body=>
  rintro l pre x W ⟨σ',q1,q2⟩ hx hsz
  obtain⟨q,hq,r1,r2⟩:=hpx _ _ hx
  obtain⟨i,hi⟩:∃i,i=pre.length:=⟨_,rfl⟩
  rw[← hi] at q1 hq hx
  have hnm2:namesOk [(9,9),(60,60),(61,61)] [] (hR (((prs A B).take i).map f)) (hR' (((prs A B).take (i+1)).map f))=true:=rfl
  have hra:RR [(9,9),(60,60),(61,61)] (hR (((prs A B).take i).map f)) (hR (((prs A B).take i).map f)):=⟨_,_,_,rfl,rfl,rfl,_,_,_,rfl,rfl,rfl,rfl⟩
  have hrb:RR [(9,9),(60,60),(61,61)] (hR' (((prs A B).take (i+1)).map f)) (hR' (((prs A B).take (i+1)).map f)):=⟨_,_,_,rfl,rfl,rfl,_,_,_,rfl,rfl,rfl,rfl⟩
  obtain⟨hi1,hi2⟩:(∀p∈([]:Rf)++hR (((prs A B).take i).map f),hpL (hR (((prs A B).take i).map f)) p.1=some p.2)∧Fresh σ' (deltaOf (hR (((prs A B).take i).map f)) (hR' (((prs A B).take (i+1)).map f))) ([]++hR (((prs A B).take i).map f)):=by
   refine⟨fun p hp=>mem_hpL (by rfl) hp,fun k hk hno=>q2 k fun hm=>?_⟩
   rcases List.mem_cons.1 hm with rfl | hm
   ·exact hno _ (List.mem_cons_self ..) rfl
   ·rw[List.mem_singleton] at hm
    subst hm
    exact hno _ (List.mem_cons_of_mem _ (List.mem_cons_self ..)) rfl
  obtain⟨hDo,hDfr,hDk,hDs,fin2⟩:=frame_world (res0:=.any) (res:=.any) hnm2 (rfl:RR [(9,9),(60,60),(61,61)] [] []) hra hrb (by unfold renP;rfl) hCo q1 hi1 hi2
  obtain⟨D,hDD⟩:∃D,D=calleeC C [(9,9),(60,60),(61,61)] σ' (hpL (hR (((prs A B).take i).map f))) W ([]++hR (((prs A B).take i).map f)):=⟨_,rfl⟩
  have hDw:D.w0=W:=by rw[hDD];rfl
  have hDσ:D.σ0=sg0 [(9,9),(60,60),(61,61)] σ':=by rw[hDD];rfl
  have hDdf:D.df=[]:=by rw[hDD];rfl
  have hDn0:D.n0=W.heap.size:=by show D.w0.heap.size=_;rw[hDw]
  have hD9:D.σ0 9=some (some g9,n9):=by
   rw[hDσ]
   show σ' 9=_
   exact q1.sg0 9 _ (hC9.trans hσ9)
  have hDe:∀b,D.ext b→∃cs e fr,W.heap[b]? = some (.cells cs e fr):=by
   rintro b hb
   rw[hDD] at hb
   obtain⟨_,_,k',hb',m,g1,g2⟩:=ext_own hra q1 hi1 hb
   exact key_cells q1 g1 g2
  rw[← hDD] at hDo hDk hDs fin2
  rw[← hDσ] at hDk hDs hDfr
  have hDn:∀k,k∉[9,60]→D.σ0 k=none:=fun k hk=>hDfr k hk
  have hDfk:∀k,D.σ0 k≠none→k∈[9,60]:=fun k hk=>Classical.byContradiction fun q=>hk (hDn k q)
  have hkk:Keeps (fz c σ h w) (fz D D.σ0 (hpL (hR (((prs A B).take i).map f))) W) w W:=by
   have:=q1.kept
   rw[hCF,hCw] at this
   exact this.trans hDk
  have hv1:PRep D.σ0 (fz D D.σ0 (hpL (hR (((prs A B).take i).map f))) W) W (.d (.c q.1)) x.1:=by unfold PRep DRep;exact CRep.keeps hkk _ _ r1
  have hv2:PRep D.σ0 (fz D D.σ0 (hpL (hR (((prs A B).take i).map f))) W) W (.d (.c q.2)) x.2:=by unfold PRep DRep;exact CRep.keeps hkk _ _ r2
  have st0:St D nt D.σ0 env9 (hpL (hR (((prs A B).take i).map f))) { tmps:=a.tmps,defers:=[] } W:=by
   refine⟨hDs,fun t=>?_,hDdf.symm,hs.nt⟩
   by_cases ht:t=9
   ·subst ht
    show PRep _ _ _ (.d (.ptr 9 0)) (a.tmps.getD 9 undef)
    unfold PRep DRep
    exact⟨g9,n9,hD9,h9v⟩
   ·have:env9 t=.any:=by
     show (bif Nat.beq t 9 then _ else _)=_
     have:Nat.beq t 9=false:=by rw[Bool.eq_false_iff];intro e;exact ht (Nat.eq_of_beq_eq_true e)
     rw[this];rfl
    rw[this];exact rep_any
  have st1:=st_put (d:=some 43) (v:=.d (.c q.1)) (u:=x.1) st0 Evo.refl st0.toSW hv1 (fun t ht=>by cases ht;exact Nat.lt_of_le_of_lt (by decide) hnt)
  have st2:=st_put (d:=some 44) (v:=.d (.c q.2)) (u:=x.2) st1 Evo.refl st1.toSW hv2 (fun t ht=>by cases ht;exact Nat.lt_of_le_of_lt (by decide) hnt)
  have st3:=st_put (d:=some 10) (v:=.d (.c q.1)) (u:=x.1) st2 Evo.refl st2.toSW hv1 (fun t ht=>by cases ht;exact Nat.lt_of_le_of_lt (by decide) hnt)
  have st4:=st_put (d:=some 11) (v:=.d (.c q.2)) (u:=x.2) st3 Evo.refl st3.toSW hv2 (fun t ht=>by cases ht;exact Nat.lt_of_le_of_lt (by decide) hnt)
  refine wpIn_mono (vcIn_out (X:=fun _ _ _ _=>False) (fk:=[9,60]) hDfk hDo hm body _ _ [9,60] (roundE (((prs A B).take (i+1)).map f)) D.σ0 _ W hok (fun _ _ _ q=>q) (hround i q hq) st4 hDn) ?_
  intro ex a' W' hq'
  cases ex with
  | normal=>
   obtain⟨e',h',n',σ2,⟨n2,wk⟩,hs2,_⟩:=hq'
   obtain⟨σ3,st5,_⟩:=st_wk hDfk hs2 wk
   obtain⟨σ4,_,sw4,_,_⟩:=fin2 σ3 W' undef st5.toSW rep_any
   rw[app_delta (by rfl)] at sw4
   obtain⟨_,sw5⟩:=sw_wk (fk:=[9]) (f:=fnL [(9,9),(60,61)]) (n:=[9,60]) (lh:=hR (((prs A B).take (i+1)).map f)) hCfk sw4 rfl rfl ⟨⟨rfl,rfl,⟨rfl,rfl,rfl,rfl,rfl⟩,rfl⟩,⟨rfl,rfl,rfl⟩,trivial⟩
   refine⟨rfl,⟨Nat.le_trans (Nat.le_of_eq hDn0.symm) hs2.size,fun k o hk hB ho=>?_⟩,newSg σ4 (fnL [(9,9),(60,61)]) [9,60],?_,fun k hk=>by unfold newSg;rw[if_neg fun e=>hk (kin_mem e)]⟩
   ·have hlt:k<W.heap.size:=(Array.getElem?_eq_some_iff.1 hk).1
    have:=hs2.block k (by rw[hDn0];exact hlt) (fun he=>by obtain⟨cs,e,fr,q⟩:=hDe k he;rw[hk] at q;cases q;cases ho)
    rw[this,hDw];exact hk
   ·rw[List.length_append,← hi];exact sw5
  | exit id=>obtain⟨e',h',n',σ2,hx,_⟩:=hq';exact hx.elim
  | goto l=>obtain⟨e',h',n',σ2,hx,_⟩:=hq';exact hx.elim
  | ret=>obtain⟨e',h',n',σ2,hx,_⟩:=hq';exact hx.elim
  | panic ch=>obtain⟨v,_,e',h',n',σ2,hx,_⟩:=hq';exact hx.elim
  | outgrown=>obtain⟨e',h',n',σ2,hx,_⟩:=hq';exact hx.elim
 case done=>
  rintro D W hD ⟨σ',q1,q2⟩ hK
  rw[hlen,List.take_of_length_le (Nat.le_refl _)] at q1
  obtain⟨σ4,ev,sw,_,fr⟩:=fin σ' W undef q1 rep_any
  exact hdone D W σ4 hD hK ev sw fun k hk hσ=>fr k (fun hm=>hk (by simpa [Dl.keys,deltaOf] using hm)) hσ
end
end
section
open Go.RowKit K
set_option maxRecDepth 100000
set_option maxRecDepth 100000
theorem info_v:∃(i:TypeInfo) (z:Value),Tryz.prog.info? 36=some i∧i.zero=some z∧z.cells.size=i.size∧i.size=3∧i.bytes≤64∧0<i.bytes:=by
 have h:(Tryz.prog.info? 36).map (fun i=>(i.zero.map fun z=>z.cells.size,i.size,Nat.ble i.bytes 64,Nat.ble 1 i.bytes))=some (some 3,3,true,true):=by kernel_rfl
 cases hi:Tryz.prog.info? 36 with
 | none=>rw[hi] at h;cases h
 | some i=>
  rw[hi] at h
  simp only[Option.map_some,Option.some.injEq,Prod.mk.injEq] at h
  obtain⟨h1,h2,h3,h4⟩:=h
  cases hz:i.zero with
  | none=>rw[hz] at h1;cases h1
  | some z=>
   rw[hz] at h1
   simp only[Option.map_some,Option.some.injEq] at h1
   exact⟨i,z,rfl,hz,by omega,h2,Nat.le_of_ble_eq_true h3,Nat.le_of_ble_eq_true h4⟩
theorem zeroCells_add (z:Array Value) (a b:Nat) (hz:0<z.size):Builtin.zeroCells z a++Builtin.zeroCells z b=Builtin.zeroCells z (a+b):=by
 apply Array.ext
 ·simp[Builtin.zeroCells,Nat.add_mul]
 ·intro j h1 h2
  simp only[Builtin.zeroCells,Array.size_append,Array.size_map,Array.size_range] at h1 h2
  by_cases h:j<a*z.size
  ·rw[Array.getElem_append_left (by simpa [Builtin.zeroCells] using h)]
   simp[Builtin.zeroCells]
  ·rw[Array.getElem_append_right (by simp[Builtin.zeroCells];omega)]
   simp only[Builtin.zeroCells,Array.getElem_map,Array.getElem_range,Array.size_map,Array.size_range]
   have:(j - a*z.size)%z.size=j%z.size:=by
    conv=>rhs;rw[show j=(j - a*z.size)+z.size*a by rw[Nat.mul_comm z.size a];omega]
    rw[Nat.add_mul_mod_self_left]
   rw[this]
set_option maxHeartbeats 1000000 in
theorem grow_nil (n:Nat) (h0:0<n) (hn:n≤1000) (w:World) (i:TypeInfo) (z:Value) (hi:Tryz.prog.info? 36=some i) (hz:i.zero=some z) (hzs:z.cells.size=i.size) (hs:i.size=3) (hb:i.bytes≤64) :
  Calls Tryz.prog 78 #[.slice none 0 0,.int .i64 n] w fun e w'=>
   e=.returned (.slice (some ⟨w.heap.size,0,none⟩) 0 (grownCap w n 0 36))∧w'=w.drew.alloc (.cells (#[]++Builtin.zeroCells z.cells (grownCap w n 0 36 - 0)) 36):=by
 have hnb:n*i.bytes≤64000:=Nat.le_trans (Nat.mul_le_mul hn hb) (by decide)
 have hG:=grownCap_ge w n 0 36
 have hrz:∀ty,(Builtin.append_ #[33,3] ty #[.slice none 0 0,.int .i64 (n:Int)]).run Tryz.prog w =
   .ok (.slice (some ⟨w.heap.size,0,none⟩) n (grownCap w n 0 36)) (w.drew.alloc (.cells (#[]++Builtin.zeroCells z.cells (grownCap w n 0 36 - 0)) 36)):=fun ty=>by
  have h:=Lib.run_append_grow_zeros (P:=Tryz.prog) w 33 3 ty 36 i z .i64 .i64 (by kernel_rfl) (by kernel_rfl) hi hz none 0 0 [] (run_firstCells_none w.drew i.size 0 0 0) n h0 (by omega) (by omega) (by omega) (by omega)
   (growslice_fits (by omega) (by rw[Nat.zero_add];omega))
  simp only[Nat.zero_add] at h
  rw[Array.append_assoc,zeroCells_add _ _ _ (by omega),Nat.add_sub_cancel' hG] at h
  exact h
 have hw:wrap64 (n:Int)=n:=by unfold wrap64;omega
 have hpos:(n:Int)>0:=by omega
 have hneg:¬(n:Int)<0:=by omega
 obtain⟨G,hGG⟩:∃G,G=grownCap w n 0 36:=⟨_,rfl⟩
 rw[← hGG] at hrz hG ⊢
 have hG63:G≤9223372036854775807:=by
  have:=grownCap_le_maxLen w n 0 36 (by unfold maxLen;omega)
  rw[← hGG] at this
  unfold maxLen at this
  omega
 clear hGG
 go_enter Tryz.func78,Tryz.ntmps78
 go_wp2_with (at_builtin;refine Lib.wpList_append_run _ rfl _ _ _ _ rfl _ _ rfl rfl _ _ (hrz _) ?_)
 all_goals (go_ret;exact⟨rfl,rfl⟩)
set_option maxHeartbeats 1000000 in
theorem grow_zero (w:World):Calls Tryz.prog 78 #[.slice none 0 0,.int .i64 0] w fun e w'=>e=.returned (.slice none 0 0)∧w'=w:=by
 go_enter Tryz.func78,Tryz.ntmps78
 go_wp2
 all_goals (go_ret;exact⟨rfl,rfl⟩)
theorem s_grow (n:Nat) (hn:n≤1000):CallS Tryz.prog 78 [.d (.c (.v (.slice none 0 0))),pInt .i64 n] [] [] (.d (.app NK 36 3 [])) [(NK,.tail 36 3)]:=by
 refine⟨⟨_,Tryz.func78,rfl,by kernel_rfl⟩,fun c vs hc hdf hfr hs ha=>?_⟩
 have h0:c.σ0 NK=none:=hfr NK (by simp)
 obtain⟨u1,us,rfl,p1,ha⟩:∃u us,vs=u::us∧PRep c.σ0 (fz c c.σ0 (hpL []) c.w0) c.w0 (.d (.c (.v (.slice none 0 0)))) u∧PsRep c.σ0 (fz c c.σ0 (hpL []) c.w0) c.w0 [pInt .i64 n] us:=by
  cases vs with
  | nil=>unfold PsRep at ha;exact ha.elim
  | cons u us=>unfold PsRep at ha;exact⟨u,us,rfl,ha.1,ha.2⟩
 obtain⟨u2,rfl,p2⟩:∃u,us=[u]∧PRep c.σ0 (fz c c.σ0 (hpL []) c.w0) c.w0 (pInt .i64 n) u:=by
  cases us with
  | nil=>unfold PsRep at ha;exact ha.elim
  | cons u us=>
   unfold PsRep at ha
   cases us with
   | nil=>exact⟨u,rfl,ha.1⟩
   | cons _ _=>have:=ha.2;unfold PsRep at this;exact this.elim
 obtain rfl:=rep_v p1
 obtain rfl:=rep_v p2
 have hh:∀b,upd (hpL []) NK b=fun k=>bif Nat.beq k NK then b else none:=fun b=>by
  funext k;unfold upd hpL;rfl
 have hh2:∀b,upd (hpL []) NK (some b)=hpL ([]++[(NK,b)]):=fun b=>by
  funext k
  unfold upd
  by_cases q:k=NK
  ·subst q;rfl
  ·have:Nat.beq k NK=false:=by rw[Bool.eq_false_iff];intro e;exact q (Nat.eq_of_beq_eq_true e)
   have h2:Nat.beq NK k=false:=by rw[Bool.eq_false_iff];intro e;exact q (Nat.eq_of_beq_eq_true e).symm
   rw[this,List.nil_append]
   unfold hpL
   first|rw[this];rfl|rw[h2];rfl
 by_cases hz:n=0
 ·subst hz
  refine (grow_zero c.w0).mono ?_
  rintro e w' ⟨rfl,rfl⟩
  obtain⟨_,h1,h2⟩:=nil_tail (key:=NK) (e:=36) (sz:=3) hs h0 (by decide)
  refine⟨.slice none 0 0,upd c.σ0 NK (some (none,0)),rfl,?_,?_⟩
  ·rw[← hh2];exact h1
  ·rw[← hh2];exact h2
 ·obtain⟨i,z,hi,hzz,hzs,h3,hb,_⟩:=info_v
  refine (grow_nil n (by omega) hn c.w0 i z hi hzz hzs h3 hb).mono ?_
  rintro e w' ⟨rfl,rfl⟩
  obtain⟨σ',_,h1,h2,_⟩:=grown_new (key:=NK) (e:=36) (cap:=grownCap c.w0 n 0 36) (l:=[]) (us:=[]) hs h0 (hzs.trans h3) (by decide) (by simp) csRep_nil rfl (Nat.zero_le _) (grownCap_le_maxLen c.w0 n 0 36 (by unfold maxLen;omega))
  refine⟨_,σ',rfl,?_,?_⟩
  ·rw[← hh2];exact h1
  ·rw[← hh2];exact h2
theorem sum_le_take:∀(l:List Nat) (k:Nat),(l.take k).sum≤l.sum
 | [],k=>by simp
 | a::l,0=>by simp
 | a::l,k+1=>by have:=sum_le_take l k;simp only[List.take_succ_cons,List.sum_cons];omega
theorem p_concat (ls:List RowT) (hs:(ls.map List.length).sum≤1000) (hn:ls.length≤1000):Pure Tryz.prog 59 [rwsV ls] (.d (.c (.sl 3 (ls.flatten.map ValueD.c)))):=by
 have pg:=s_grow (ls.map List.length).sum hs
 have hml:(ls.map rowC).length=ls.length:=List.length_map _
 refine pure_of Tryz.func59 (by rfl) rfl (by kernel_rfl) (by rfl) ?_
 have hsum:∀(k:Nat) (hk:k<ls.length),((ls.take (k+1)).map List.length).sum=((ls.take k).map List.length).sum+ls[k].length∧((ls.take k).map List.length).sum+ls[k].length≤1000:=fun k hk=>by
  have h1:((ls.take (k+1)).map List.length).sum=((ls.take k).map List.length).sum+ls[k].length:=by
   rw[take_snoc hk,List.map_append,List.sum_append];simp
  have h2:=sum_le_take (ls.map List.length) (k+1)
  rw[← List.map_take] at h2
  omega
 ((conv=>whnf);repeat' ((first|(with_reducible first|apply a_|apply b_|apply c_)|((with_reducible first|apply d_|apply e_|apply f_|apply g_);focus first|omega|(simp only[q_]<;>omega))|((with_reducible first|apply i_|apply h_);focus first|omega|(simp only[q_]<;>omega))|((with_reducible apply h_);focus first|decide|kernel_rfl)|refine s_ (by decide) ?_|refine t_ (by decide) ?_|with_reducible first|apply l_|apply m_|apply n_|apply o_|refine p_ (fun _=>?_) (fun _=>?_))<;>(conv=>whnf)))
 refine LoopC.mk Nat (fun k=>[(0,rwsV ls),(3,pInt .i64 ((((ls.take k).map List.length).sum:Nat):Int)),(9,rwsV ls),(10,pInt .i64 ls.length),(11,pInt .i64 (k:Int))]) (fun _=>[]) [] (fun k=>k≤ls.length) (fun k=>ls.length - k) 0 (Nat.zero_le _) ?start ?round
 case start=>exact⟨[],rfl,rfl,⟨.inl rfl,PLe.int (by simp),.inl rfl,PLe.int (by simp),.inl rfl,trivial⟩,trivial⟩
 case round=>
  intro k hk
  have hk:k≤ls.length:=hk
  by_cases q:k<ls.length
  ·obtain⟨h1,h2⟩:=hsum k q
   have hm:(ls[k].map ValueD.c).length=ls[k].length:=List.length_map _
   ((conv=>whnf);repeat' ((first|(with_reducible first|apply a_|apply b_|apply c_)|((with_reducible first|apply d_|apply e_|apply f_|apply g_);focus first|omega|(simp only[q_]<;>omega))|((with_reducible first|apply i_|apply h_);focus first|omega|(simp only[q_]<;>omega))|((with_reducible apply h_);focus first|decide|kernel_rfl)|refine s_ (by decide) ?_|refine t_ (by decide) ?_|(refine Idx.mapI (f:=rowC) k rfl q ?_)|with_reducible first|apply l_|apply m_|apply n_|apply o_|refine p_ (fun _=>?_) (fun _=>?_))<;>(conv=>whnf)))
   all_goals first
    | exact⟨k+1,by show k+1≤_;omega,by show ls.length - (k+1)<ls.length - k;omega,[],rfl,rfl,⟨.inl rfl,PLe.int (by omega),.inl rfl,PLe.int (by simp),PLe.int (by omega),trivial⟩,trivial⟩
    | (exfalso;omega)
    | skip
  ·have e:ls.take k=ls:=List.take_of_length_le (by omega)
   rw[e]
   ((conv=>whnf);repeat' ((first|(with_reducible first|apply a_|apply b_|apply c_)|((with_reducible first|apply d_|apply e_|apply f_|apply g_);focus first|omega|(simp only[q_]<;>omega))|((with_reducible first|apply i_|apply h_);focus first|omega|(simp only[q_]<;>omega))|((with_reducible apply h_);focus first|decide|kernel_rfl)|refine s_ (by decide) ?_|refine t_ (by decide) ?_|(refine CallP.ret [(NK,24)] _ _ _ _ _ _ _ pg rfl rfl rfl rfl trivial ?_)|with_reducible first|apply l_|apply m_|apply n_|apply o_|refine p_ (fun _=>?_) (fun _=>?_))<;>(conv=>whnf)))
   refine LoopC.mk Nat (fun k=>[(6,.d (.app 60 36 3 ((ls.take k).flatten.map ValueD.c))),(25,rwsV ls),(26,pInt .i64 ls.length),(27,pInt .i64 (k:Int))]) (fun _=>[(60,.tail 36 3)]) [60] (fun k=>k≤ls.length) (fun k=>ls.length - k) 0 (Nat.zero_le _) ?start2 ?round2
   case start2=>exact⟨[(60,24)],rfl,rfl,⟨⟨rfl,rfl,rfl,rfl,by simp⟩,.inl rfl,PLe.int (by simp),.inl rfl,trivial⟩,⟨rfl,rfl,rfl⟩,trivial⟩
   case round2=>
    intro k hk
    have hk:k≤ls.length:=hk
    by_cases q:k<ls.length
    ·obtain⟨h1,h2⟩:=hsum k q
     have hf:(ls.take k).flatten.length=((ls.take k).map List.length).sum:=List.length_flatten
     ((conv=>whnf);repeat' ((first|(with_reducible first|apply a_|apply b_|apply c_)|((with_reducible first|apply d_|apply e_|apply f_|apply g_);focus first|omega|(simp only[q_]<;>omega))|((with_reducible first|apply i_|apply h_);focus first|omega|(simp only[q_]<;>omega))|((with_reducible apply h_);focus first|decide|kernel_rfl)|refine s_ (by decide) ?_|refine t_ (by decide) ?_|(refine Idx.mapI (f:=rowC) k rfl q ?_)|(refine Need.by 32 rfl (by simp only[List.length_map];omega) ?_)|with_reducible first|apply l_|apply m_|apply n_|apply o_|refine p_ (fun _=>?_) (fun _=>?_))<;>(conv=>whnf)))
     all_goals first
      | exact⟨k+1,by show k+1≤_;omega,by show ls.length - (k+1)<ls.length - k;omega,[(60,33)],rfl,rfl,⟨⟨rfl,rfl,rfl,rfl,by rw[take_snoc q,List.flatten_append,List.map_append];simp⟩,.inl rfl,PLe.int (by simp),PLe.int (by omega),trivial⟩,⟨rfl,rfl,rfl⟩,trivial⟩
      | (exfalso;omega)
      | skip
    ·have e:ls.take k=ls:=List.take_of_length_le (by omega)
     rw[e]
     ((conv=>whnf);repeat' ((first|(with_reducible first|apply a_|apply b_|apply c_)|((with_reducible first|apply d_|apply e_|apply f_|apply g_);focus first|omega|(simp only[q_]<;>omega))|((with_reducible first|apply i_|apply h_);focus first|omega|(simp only[q_]<;>omega))|((with_reducible apply h_);focus first|decide|kernel_rfl)|refine s_ (by decide) ?_|refine t_ (by decide) ?_|with_reducible first|apply l_|apply m_|apply n_|apply o_|refine p_ (fun _=>?_) (fun _=>?_))<;>(conv=>whnf)))
     all_goals first|exact Ret.mk rfl | (exfalso;omega)
end
section
open Go.RowKit K
set_option maxRecDepth 100000
set_option maxRecDepth 100000
def joinX (a b:List RowT):List RowT:=a.flatMap fun x=>b.map (x++·)
def joinF2 (a b:List RowT):List RowT×Int:=
 if rowsChk a≠0 then ([],rowsChk a) else if rowsChk b≠0 then ([],rowsChk b) else if 8<widthF a+widthF b∨40<a.length*b.length then ([],2) else (joinX a b,0)
end
section
open Go.RowKit K
set_option maxRecDepth 100000
set_option maxRecDepth 100000
theorem s_pairs (a b:List RowT):CallS Tryz.prog 58 [rwsV a,rwsV b] [] [] (.d (.clo 77 [] [.ptr NK 0,.ptr NK1 0])) [(NK,.box TT [.c (.sl 1 (a.map rowC))]),(NK1,.box TT [.c (.sl 1 (b.map rowC))])]:=by
 refine callS_of Tryz.func58 (by rfl) rfl (by kernel_rfl) (by rfl) [] rfl ?_
 ((conv=>whnf);repeat' ((first|(with_reducible first|apply a_|apply b_|apply c_)|((with_reducible first|apply d_|apply e_|apply f_|apply g_);focus first|omega|(simp only[q_]<;>omega))|((with_reducible first|apply i_|apply h_);focus first|omega|(simp only[q_]<;>omega))|((with_reducible apply h_);focus first|decide|kernel_rfl)|refine s_ (by decide) ?_|refine t_ (by decide) ?_|with_reducible first|apply l_|apply m_|apply n_|apply o_|refine p_ (fun _=>?_) (fun _=>?_))<;>(conv=>whnf)))
 all_goals exact RetS.mk [(NK,2),(NK1,3)] [NK,NK1] rfl rfl ⟨rfl,rfl,⟨rfl,rfl,rfl⟩,⟨rfl,rfl,rfl⟩,rfl⟩ ⟨⟨rfl,rfl,.inl rfl,rfl⟩,⟨rfl,rfl,.inl rfl,rfl⟩,trivial⟩
section
variable {P:Program}
theorem pre_out {m:Nat} {fn:Func} {fk:List Nat} {c:Ctx} {R:Ending→World→Prop} {tail:Code} {N:Env→Hp→List Nat→Prop} {Fin:Hp→List PV→Prop} (hc:c.Ok) (hm:P.follows .mixedOrders=true) (hdf:c.df=[]) (hfk:∀k,c.σ0 k≠none→k∈fk)
  (hfin:∀σ h w vs us,Fin h vs→SW c σ h w→PsRep σ (fz c σ h w) w vs us→R (.returned (if hx:us.toArray.size=1 then us.toArray[0] else .tuple us.toArray)) w)
  (htail:∀(e:Env) (h:Hp) (n:List Nat) (σ:Sg) (a:Act) (w:World),N e h n→St c fn.ntmps σ e h a w→(∀k,k∉n→σ k=none)→tail.wpIn Fence.wide m P (bodyPostM Fence.wide m P fn R) a w) :
  ∀(pre:List Code) (e:Env) (h:Hp) (n:List Nat) (σ:Sg) (a:Act) (w:World),vcPre P fn.ntmps fk (fun _ _ _ _=>False) pre N (fun x e h _=>match x with | .ret=>resP P h e fn.results.toList fun vs=>Fin h vs | _=>False) e h n→
   St c fn.ntmps σ e h a w→(∀k,k∉n→σ k=none)→(seqs pre tail).wpIn Fence.wide m P (bodyPostM Fence.wide m P fn R) a w
 | [],e,h,n,σ,a,w,hv,hs,hf=>htail e h n σ a w hv hs hf
 | cd::pre,e,h,n,σ,a,w,hv,hs,hf=>by
  refine wpIn_seq (wpIn_mono (wpIn_wide.2 (vc_out hfk hc hm cd e h n _ σ a w hv hs hf)) ?_)
  intro x a' w' hq
  cases x with
  | normal=>
   obtain⟨e',h',n',σ',hq,hs',hf'⟩:=hq
   exact pre_out hc hm hdf hfk hfin htail pre e' h' n' σ' a' w' hq hs' hf'
  | ret=>
   obtain⟨e',h',n',σ',hq,hs',hf'⟩:=hq
   obtain⟨vs,us,g1,g2,g3⟩:=results_run hs' hq
   show LeavesInM Fence.wide m P fn a'.tmps R a'.defers .returning w'
   rw[hs'.defers,hdf]
   exact⟨_,g2,hfin σ' h' w' vs us g1 hs'.toSW g3⟩
  | exit id=>obtain⟨e',h',n',σ',hq,hs',_⟩:=hq;exact hq.elim
  | goto l=>obtain⟨e',h',n',σ',hq,hs',_⟩:=hq;exact hq.elim
  | panic ch=>obtain⟨v,_,e',h',n',σ',hq,_⟩:=hq;exact hq.elim
  | outgrown=>obtain⟨e',h',n',σ',hq,hs',_⟩:=hq;exact hq.elim
end
def JAt (G:Prop) (gf:Nat) (RA RB:List (List C)) (e:Env) (h:Hp) (n:List Nat):Prop:=
 G∧e 42=.d (.clo gf [] [.ptr 70 0,.ptr 71 0])∧e 9=.d (.ptr 9 0)∧h 9=some (.box TT [nilC])∧h 70=some (.box TT [.c (.sl 1 RA)])∧h 71=some (.box TT [.c (.sl 1 RB)])∧kin 60 n=false
def jatK (G:Prop) (gf:Nat) (RA RB:List (List C)):Cont:=fun x e h n=>match x with
 | .normal=>JAt G gf RA RB e h n
 | _=>False
def postK (P:Program) (fn:Func) (rows:List (List C)):Cont:=fun x e h n=>match x with
 | .normal=>resP P h e fn.results.toList fun vs=>tupOf vs fun v=>RetS [9,60] h (.tup [.d (.app 60 TE 1 rows),pInt .i64 0]) [(60,.tail TE 1)] v
 | _=>False
section
variable {P:Program}
set_option maxHeartbeats 1000000 in
theorem callS_join {fid:FuncId} {fn:Func} {pre:List Code} {r11 body r15:Code} {bid id1 id2:Nat} {o1 o2:Oper} {args:List PV} {res:PV} {G:Prop} {gf:Nat} {A B:List C} {RA RB rows:List (List C)} {f:C×C→List C}
  (hf:P.funcs[fid]? = some fn) (hn:(fn.name== "runtime.NumGoroutine")=false)
  (hbody:fn.body=some (seqs pre (.seq (.seq r11 (.block bid (.rangeFunc (.tmp 42) #[43,44] (.seq (.region id1 #[o1] false) (.region id2 #[o2] false)) body))) (.seq r15 .ret))))
  (hres:fn.results=#[.tmp 4,.tmp 5]) (hm:P.follows .mixedOrders=true) (ha:Nat.ble args.length fn.ntmps=true) (hnt:Nat.blt 44 fn.ntmps=true) (ha1:isAssign o1 10 43) (ha2:isAssign o2 11 44) (hok:okIn body=true)
  (eg:∀args w,(callFunc gf args).run P w=.ok (.enter gf args) w) (hRA:RA=A.map fun c=>[c]) (hRB:RB=B.map fun c=>[c]) (hrows:(prs A B).map f=rows) (hr:G→res=.tup [.d (.app NK TE 1 rows),pInt .i64 0])
  (hiter:∀(k1 k2 la lb ca cb:Nat) (a b:Option Addr) (xa xb:List Value),SeqP Fence.wide 5 P gf #[.pointer (some ⟨k1,0,none⟩),.pointer (some ⟨k2,0,none⟩)] (fun x:Value×Value=>#[x.1,x.2]) (prs xa xb)
   (fun W=>Seen W (.slice a la ca) la 1 xa∧Seen W (.slice b lb cb) lb 1 xb∧W.cell? ⟨k1,0,none⟩=some (.slice a la ca)∧W.cell? ⟨k2,0,none⟩=some (.slice b lb cb)))
  (hround:G→∀(i:Nat) (p:C×C),(prs A B)[i]? = some p→vc P fn.ntmps [9,60] (fun _ _ _ _=>False) body (envX p.1 p.2) (hpL (hR (((prs A B).take i).map f))) [9,60] (roundE (((prs A B).take (i+1)).map f)))
  (hpost:G→vc P fn.ntmps [9,60] (fun _ _ _ _=>False) r15 env9 (hpL (hR rows)) [9,60] (postK P fn rows))
  (hv:vcPre P fn.ntmps [] (fun _ _ _ _=>False) pre (fun e h n=>vc P fn.ntmps [] (fun _ _ _ _=>False) r11 e h n (jatK G gf RA RB))
   (fun x e h _=>match x with | .ret=>resP P h e fn.results.toList fun vs=>tupOf vs fun v=>RetS [] h res [(NK,.tail TE 1)] v | _=>False) (argsE args) (hpL []) []) :
  CallS P fid args [] [] res [(NK,.tail TE 1)]:=by
 refine⟨⟨fn,hf,hn,by rw[hbody];rfl⟩,fun c vs hc hdf hfr hs hargs=>?_⟩
 have hst:=st_begin hs hargs (Nat.le_of_ble_eq_true ha) hdf
 have hc0:∀k,c.σ0 k=none:=fun k=>hfr k (by simp)
 have hfk:∀k,c.σ0 k≠none→k∈([]:List Nat):=fun k hk=>absurd (hc0 k) hk
 have hnt':44<fn.ntmps:=by simpa using hnt
 refine callsIn_wide.1 (callsIn_of_wp_marks (F:=Fence.wide) (n:=6) hf hbody trivial ?_ rfl)
 refine pre_out (fk:=[]) (Fin:=fun h vs=>tupOf vs fun v=>RetS [] h res [(NK,.tail TE 1)] v) hc hm hdf hfk ?fin ?tail pre _ _ [] _ _ _ hv hst (fun k _=>hc0 k)
 case fin=>
  intro σ' h' w' ps us h1 hs' h3
  obtain⟨v,h5,h6⟩:=tup_out h1 h3
  obtain⟨g,n,q1,q2,q3,q4⟩:=h5
  obtain⟨hk,hsw⟩:=sw_wk hfk hs' q1 q2 q4
  exact⟨_,_,rfl,hsw,prep_wk hk _ _ _ q3 h6⟩
 case tail=>
  intro e h n σ a w hN hs hf
  refine wpIn_seq (wpIn_seq (wpIn_mono (wpIn_wide.2 (vc_out hfk hc hm r11 e h n _ σ a w hN hs hf)) ?_))
  intro x a' w' hq
  cases x with
  | normal=>
   obtain⟨e',h',n',σ',⟨hG,j1,j2,j3,j4,j5,j6⟩,hs',hf'⟩:=hq
   refine wpIn_block ?_
   obtain⟨g9,n9,cs9,hσ9,_⟩:=hs'.hp 9 _ j3
   have h42:=hs'.env 42
   rw[j1] at h42
   unfold PRep DRep at h42
   obtain⟨us,cvs,e1,e2,e3⟩:=h42
   have e4:=dsRep_nil_inv e2
   subst e4
   obtain⟨u1,v1,rfl,p1,e5⟩:=dsRep_inv e3
   obtain⟨u2,v2,rfl,p2,e6⟩:=dsRep_inv e5
   have e7:=dsRep_nil_inv e6
   subst e7
   unfold DRep at p1 p2
   obtain⟨g1,n1,s1,rfl⟩:=p1
   obtain⟨g2,n2,s2,rfl⟩:=p2
   rw[hRA] at j4
   rw[hRB] at j5
   obtain⟨g1',n1',ca,aa,xa,s1',hA,seenA⟩:=box_seen hc hs'.toSW j4 j3 hσ9 (by decide)
   obtain⟨g2',n2',cb,ab,xb,s2',hB,seenB⟩:=box_seen hc hs'.toSW j5 j3 hσ9 (by decide)
   rw[s1] at s1';cases s1'
   rw[s2] at s2';cases s2'
   refine range_out (A:=A) (B:=B) hc hm hs' (e1:a'.eval (.tmp 42)=_) eg j2 j3 (hf' 60 fun hm=>by have:=kin_of hm;rw[j6] at this;cases this) hnt' ha1 ha2 hA hB (hiter g1 g2 A.length B.length ca cb aa ab xa xb) ?hT f hok (hround hG) ?done
   case hT=>
    intro W hle hW
    have hb:∀b,b<w'.heap.size→b≠g9→W.heap[b]? = w'.heap[b]?:=fun b h1 h2=>hW b h1 fun m q=>by rw[hσ9] at q;cases q;exact h2 rfl
    exact⟨(seenA W hle hb).1,(seenB W hle hb).1,(seenA W hle hb).2,(seenB W hle hb).2⟩
   case done=>
    intro D W σ4 hD hK ev sw fr
    rw[hrows] at ev sw
    show (Code.seq r15 .ret).wpIn Fence.wide 6 P _ _ _
    obtain⟨h4,hh4⟩:∃h4,h4=Dl.app h' (deltaOf r0 (hR rows)):=⟨_,rfl⟩
    rw[← hh4] at ev sw
    have hi1:∀p∈([]:Rf)++hR rows,h4 p.1=some p.2:=by
     intro p hp
     rw[hh4]
     rcases List.mem_cons.1 hp with rfl | hp
     ·rfl
     ·rw[List.mem_singleton] at hp
      subst hp;rfl
    have hra:RR [(9,9),(60,60)] (hR rows) (hR rows):=⟨_,_,_,rfl,rfl,rfl,_,_,_,rfl,rfl,rfl,rfl⟩
    have hrb:RR [(9,9),(60,60)] [(60,.tail TE 1)] [(60,.tail TE 1)]:=⟨_,_,_,rfl,rfl,rfl,rfl⟩
    have hfr3:Fresh σ4 (deltaOf (hR rows) [(60,.tail TE 1)]) ([]++hR rows):=by
     intro k hk hno
     exfalso
     have:k=9∨k=60:=by simpa [Dl.keys,deltaOf] using hk
     rcases this with rfl | rfl
     ·exact hno _ (List.mem_cons_self ..) rfl
     ·exact hno _ (List.mem_cons_of_mem _ (List.mem_cons_self ..)) rfl
    obtain⟨hEo,hEfr,hEk,hEs,fin3⟩:=frame_world (res0:=.tup [.d (.app 60 TE 1 rows),pInt .i64 0]) (res:=.tup [.d (.app 60 TE 1 rows),pInt .i64 0]) (rfl:namesOk [(9,9),(60,60)] [] (hR rows) [(60,.tail TE 1)]=true) (rfl:RR [(9,9),(60,60)] [] []) hra hrb rfl hc sw hi1 hfr3
    obtain⟨E,hE⟩:∃E,E=calleeC c [(9,9),(60,60)] σ4 h4 W ([]++hR rows):=⟨_,rfl⟩
    have hEw:E.w0=W:=by rw[hE];rfl
    have hEσ:E.σ0=sg0 [(9,9),(60,60)] σ4:=by rw[hE];rfl
    have hEn0:E.n0=W.heap.size:=by show E.w0.heap.size=_;rw[hEw]
    have hE9:E.σ0 9=some (some g9,n9):=by rw[hEσ];show σ4 9=_;exact ev.sg 9 _ hσ9
    have hEe:∀b,E.ext b→∃cs e fr,W.heap[b]? = some (.cells cs e fr):=by
     rintro b hb
     rw[hE] at hb
     obtain⟨_,_,k',hb',m,q1,q2⟩:=ext_own hra sw hi1 hb
     have:=sw.hp k' hb' (hi1 _ q1)
     rcases List.mem_cons.1 q1 with q | q
     ·cases q
      obtain⟨g,n,cs,h1,h2,h3,h4⟩:=this
      rw[q2] at h1;cases h1
      exact⟨_,_,_,h3⟩
     ·rw[List.mem_singleton] at q
      cases q
      obtain⟨_,ob,n',h1,h2⟩:=this
      rw[q2] at h1;cases h1
      obtain⟨_,cur,h3⟩:=h2
      exact⟨_,_,_,h3⟩
    rw[← hE] at hEo hEk hEs fin3
    rw[← hEσ] at hEk hEs hEfr
    have hEn:∀k,k∉[9,60]→E.σ0 k=none:=fun k hk=>hEfr k hk
    have hEfk:∀k,E.σ0 k≠none→k∈[9,60]:=fun k hk=>Classical.byContradiction fun q=>hk (hEn k q)
    obtain⟨d,hd⟩:∃d:Deferred,d={ target:=.collected D,args:=#[] }:=⟨_,rfl⟩
    rw[← hd]
    have hadf:a'.defers=[]:=hs'.defers.trans hdf
    obtain⟨E',hE'⟩:∃E':Ctx,E'={ E with df:=[d],σ0:=E.σ0 }:=⟨_,rfl⟩
    have st0:St E' fn.ntmps E.σ0 env9 (hpL (hR rows)) { a' with defers:=d::a'.defers } W:=by
     refine⟨by rw[hE'];exact sw_df hEs [d] E.σ0 (fun _ _ h=>h),fun t=>?_,by rw[hE',hadf],hs'.nt⟩
     by_cases ht:t=9
     ·subst ht
      show PRep _ _ _ (.d (.ptr 9 0)) (a'.tmps.getD 9 undef)
      have:=hs'.env 9
      rw[j2] at this
      unfold PRep DRep at this ⊢
      obtain⟨g,n,q1,q2⟩:=this
      rw[hσ9] at q1;cases q1
      exact⟨g9,n9,hE9,q2⟩
     ·have:env9 t=.any:=by
       show (bif Nat.beq t 9 then _ else _)=_
       have:Nat.beq t 9=false:=by rw[Bool.eq_false_iff];intro e;exact ht (Nat.eq_of_beq_eq_true e)
       rw[this];rfl
      rw[this];exact rep_any
    have hE'o:E'.Ok:=by rw[hE'];exact ctx_df hEo [d] E.σ0
    have hE'fk:∀k,E'.σ0 k≠none→k∈[9,60]:=by rw[hE'];exact hEfk
    refine wpIn_seq (wpIn_mono (wpIn_wide.2 (vc_out hE'fk hE'o hm r15 _ _ [9,60] _ E.σ0 _ W (hpost hG) st0 hEn)) ?_)
    intro x a5 w5 hq
    cases x with
    | normal=>
     obtain⟨e5,h5,n5,σ5,hq,hs5,_⟩:=hq
     refine wpIn_ret ?_
     show LeavesInM Fence.wide 6 P fn a5.tmps _ a5.defers .returning w5
     rw[hs5.defers,show E'.df=[d] by rw[hE'],hd]
     have hDlt:D<W.heap.size:=(Array.getElem?_eq_some_iff.1 hK).1
     have hsE:SW E σ5 h5 w5:=by
      have:=sw_df hs5.toSW E.df E.σ0 (fun k x hk=>hs5.sg0 k x (by rw[hE'];exact hk))
      rw[hE'] at this
      exact this
     have hK5:w5.heap[D]? = some (.deferred (some [])):=by
      have:=hsE.block D (by rw[hEn0];exact hDlt) (fun he=>by obtain⟨cs,e,fr,q⟩:=hEe D he;rw[hK] at q;cases q)
      rw[this,hEw];exact hK
     obtain⟨ps,us5,r1,r2,r3⟩:=results_run hs5 hq
     have hrun:∀W',(results fn a5.tmps).run P W'=.ok (.tuple #[a5.tmps.getD 4 undef,a5.tmps.getD 5 undef]) W':=fun W'=>by
      unfold results
      rw[hres]
      simp
     have hval:(if hx:us5.toArray.size=1 then us5.toArray[0] else .tuple us5.toArray)=.tuple #[a5.tmps.getD 4 undef,a5.tmps.getD 5 undef]:=by
      have:=hrun w5
      rw[r2] at this
      exact (Result.ok.inj this).1
     obtain⟨v,q5,q6⟩:=tup_out r1 r3
     obtain⟨gr,nr,t1,t2,t3,t4⟩:=q5
     obtain⟨hk5,hsw5⟩:=sw_wk hE'fk hs5.toSW t1 t2 t4
     have q7:=prep_wk hk5 _ _ _ t3 q6
     rw[hval] at q7
     have hsw6:SW E (newSg σ5 (fnL gr) nr) (hpL [(60,.tail TE 1)]) w5:=by
      have:=sw_df hsw5 E.df E.σ0 (fun k x hk=>hsw5.sg0 k x (by rw[hE'];exact hk))
      rw[hE'] at this
      exact this
     have q8:PRep (newSg σ5 (fnL gr) nr) (fz E (newSg σ5 (fnL gr) nr) (hpL [(60,.tail TE 1)]) w5) w5 (.tup [.d (.app 60 TE 1 rows),pInt .i64 0]) (.tuple #[a5.tmps.getD 4 undef,a5.tmps.getD 5 undef]):=by
      rw[hE'] at q7
      exact q7
     obtain⟨σ6,_,sw6,q9,_⟩:=fin3 _ w5 _ hsw6 q8
     have hDn:c.n0≤D:=Nat.le_trans hs'.size hD
     obtain⟨ev7,sw7⟩:=sw_other (o':=.deferred none) sw6 hDn hK5 rfl (fun _ _ e=>by cases e) rfl
     refine⟨by simp,.inl ⟨_,_,rfl,run_takeDeferred hK5,?_⟩⟩
     refine⟨_,hrun _,?_⟩
     obtain⟨hk8,sw8⟩:=sw_wk (fk:=[]) (f:=fnL [(NK,60)]) (n:=[NK]) (lh:=[(NK,.tail TE 1)]) hfk sw7 rfl rfl ⟨⟨rfl,rfl,rfl⟩,trivial⟩
     rw[hr hG]
     exact⟨_,_,rfl,sw8,prep_wk hk8 (.tup [.d (.app NK TE 1 rows),pInt .i64 0]) (.tup [.d (.app 60 TE 1 rows),pInt .i64 0]) _ ⟨⟨rfl,rfl,rfl,rfl,rfl⟩,.inl rfl,rfl⟩ (PRep.evo ev7 _ _ q9)⟩
    | exit id=>obtain⟨e',h',n',σ',hq,_⟩:=hq;exact hq.elim
    | goto l=>obtain⟨e',h',n',σ',hq,_⟩:=hq;exact hq.elim
    | ret=>obtain⟨e',h',n',σ',hq,_⟩:=hq;exact hq.elim
    | panic ch=>obtain⟨v,_,e',h',n',σ',hq,_⟩:=hq;exact hq.elim
    | outgrown=>obtain⟨e',h',n',σ',hq,_⟩:=hq;exact hq.elim
  | exit id=>obtain⟨e',h',n',σ',hq,_⟩:=hq;exact hq.elim
  | goto l=>obtain⟨e',h',n',σ',hq,_⟩:=hq;exact hq.elim
  | ret=>obtain⟨e',h',n',σ',hq,_⟩:=hq;exact hq.elim
  | panic ch=>obtain⟨v,_,e',h',n',σ',hq,_⟩:=hq;exact hq.elim
  | outgrown=>obtain⟨e',h',n',σ',hq,_⟩:=hq;exact hq.elim
end
def catC (p:C×C):List C:=match p with
 | (.sl _ x,.sl _ y)=>[C.sl 3 (x++y)]
 | _=>[]
def rowS (r:RowT):C:=C.sl 3 (r.map ValueD.c)
theorem prs_join (a b:List RowT):(prs (a.map rowS) (b.map rowS)).map catC=(joinX a b).map rowC:=by
 unfold prs joinX
 induction a with
 | nil=>rfl
 | cons x a ih=>
  rw[List.map_cons,List.flatMap_cons,List.flatMap_cons,List.map_append,List.map_append,ih]
  congr 1
  simp[rowC,rowS,catC]
theorem prs_map {α β:Type} (f:α→β) (a b:List α):prs (a.map f) (b.map f)=(prs a b).map fun p=>(f p.1,f p.2):=by
 unfold prs
 induction a with
 | nil=>rfl
 | cons x a ih=>rw[List.map_cons,List.flatMap_cons,List.flatMap_cons,List.map_append,ih,List.map_map,List.map_map];rfl
theorem prs_mem {α β:Type} {a:List α} {b:List β} {p:α×β} (h:p∈prs a b):p.1∈a∧p.2∈b:=by
 unfold prs at h
 simp only[List.mem_flatMap,List.mem_map] at h
 obtain⟨x,hx,y,hy,rfl⟩:=h
 exact⟨hx,hy⟩
theorem s_Join (a b:List RowT):CallS Tryz.prog 32 [rwsV a,rwsV b] [] [] (.tup [.d (.app NK TE 1 ((joinF2 a b).1.map rowC)),pInt .i64 (joinF2 a b).2]) [(NK,.tail TE 1)]:=by
 have hma:(a.map rowC).length=a.length:=List.length_map _
 have hmb:(b.map rowC).length=b.length:=List.length_map _
 have pa:=p_bagcheck a
 have pb:=p_bagcheck b
 have pp:=s_pairs a b
 obtain⟨G,hG⟩:∃G:Prop,G=(rowsChk a=0∧rowsChk b=0∧¬(8<widthF a+widthF b∨40<a.length*b.length)):=⟨_,rfl⟩
 refine callS_join (pre:=[_,_,_,_]) (G:=G) (gf:=77) (A:=a.map rowS) (B:=b.map rowS) (RA:=a.map rowC) (RB:=b.map rowC) (rows:=(joinX a b).map rowC) (f:=catC) Tryz.func32 rfl (by rfl) rfl (by rfl) rfl rfl ⟨rfl,rfl,rfl⟩ ⟨rfl,rfl,rfl⟩ rfl (enters_of Tryz.func77 (by kernel_rfl) rfl) (by rw[List.map_map];rfl) (by rw[List.map_map];rfl) (prs_join a b) ?hr (fun k1 k2 la lb ca cb a b xa xb=>pairs_any 5 k1 k2 la lb ca cb a b xa xb) ?round ?post ?pre
 case hr=>
  intro g
  rw[hG] at g
  unfold joinF2
  rw[if_neg (not_not_intro g.1),if_neg (not_not_intro g.2.1),if_neg g.2.2]
 case round=>
  intro g i p hp
  rw[hG] at g
  obtain⟨h1,h2,h3⟩:=g
  obtain⟨ha40,ha8⟩:=rowsChk_ok.1 h1
  obtain⟨hb40,hb8⟩:=rowsChk_ok.1 h2
  have hil:i<(prs (a.map rowS) (b.map rowS)).length:=(List.getElem?_eq_some_iff.1 hp).1
  have hil2:i<a.length*b.length:=by rw[prs_len,List.length_map,List.length_map] at hil;exact hil
  have hsn:((prs (a.map rowS) (b.map rowS)).take (i+1)).map catC=((prs (a.map rowS) (b.map rowS)).take i).map catC++[catC p]:=by
   rw[map_snoc _ _ hil,(List.getElem?_eq_some_iff.1 hp).2]
  rw[hsn]
  have hrl:(((prs (a.map rowS) (b.map rowS)).take i).map catC).length≤1600:=by rw[List.length_map,List.length_take];omega
  rw[prs_map,List.getElem?_map] at hp
  cases hq:(prs a b)[i]? with
  | none=>rw[hq] at hp;cases hp
  | some xy=>
   rw[hq] at hp
   obtain⟨x,y⟩:=xy
   simp only[Option.map_some,Option.some.injEq] at hp
   subst hp
   obtain⟨hx,hy⟩:=prs_mem (List.mem_of_getElem? hq)
   have hx8:x.length≤8:=(ha8 x hx).1
   have hy8:y.length≤8:=(hb8 y hy).1
   have pc:=p_concat [x,y] (by simp;omega) (by simp)
   have e1:catC (rowS x,rowS y)=[C.sl 3 ([x,y].flatten.map ValueD.c)]:=by simp[catC,rowS]
   rw[e1]
   generalize ((prs (a.map rowS) (b.map rowS)).take i).map catC=rows at hrl ⊢
   have pc:Pure Tryz.prog 59 [.d (.c (.sl 1 [[rowS x],[rowS y]]))] _:=pc
   unfold rowS at pc ⊢
   ((conv=>whnf);repeat' ((first|(with_reducible first|apply a_|apply b_|apply c_)|((with_reducible first|apply d_|apply e_|apply f_|apply g_);focus first|omega|(simp only[q_]<;>omega))|((with_reducible first|apply i_|apply h_);focus first|omega|(simp only[q_]<;>omega))|((with_reducible apply h_);focus first|decide|kernel_rfl)|refine s_ (by decide) ?_|refine t_ (by decide) ?_|refine r_ pc rfl ?_|(refine Need.by 24 rfl (by simp only[List.length_singleton];omega) ?_)|with_reducible first|apply l_|apply m_|apply n_|apply o_|refine p_ (fun _=>?_) (fun _=>?_))<;>(conv=>whnf)))
   all_goals first
    | exact⟨[9,60,61],⟨[(9,9),(60,60),(61,51)],rfl,rfl,trivial,⟨⟨rfl,rfl,⟨rfl,rfl,rfl,rfl,rfl⟩,rfl⟩,⟨rfl,rfl,rfl⟩,trivial⟩⟩⟩
    | skip
 case post=>
  intro g
  ((conv=>whnf);repeat' ((first|(with_reducible first|apply a_|apply b_|apply c_)|((with_reducible first|apply d_|apply e_|apply f_|apply g_);focus first|omega|(simp only[q_]<;>omega))|((with_reducible first|apply i_|apply h_);focus first|omega|(simp only[q_]<;>omega))|((with_reducible apply h_);focus first|decide|kernel_rfl)|refine s_ (by decide) ?_|refine t_ (by decide) ?_|with_reducible first|apply l_|apply m_|apply n_|apply o_|refine p_ (fun _=>?_) (fun _=>?_))<;>(conv=>whnf)))
  all_goals first
   | exact RetS.mk [(9,9),(60,60)] [9,60] rfl rfl ⟨⟨rfl,rfl,rfl,rfl,rfl⟩,.inl rfl,rfl⟩ ⟨⟨rfl,rfl,rfl⟩,trivial⟩
   | skip
 case pre=>
  ((conv=>whnf);repeat' ((first|(with_reducible first|apply a_|apply b_|apply c_)|((with_reducible first|apply d_|apply e_|apply f_|apply g_);focus first|omega|(simp only[q_]<;>omega))|((with_reducible first|apply i_|apply h_);focus first|omega|(simp only[q_]<;>omega))|((with_reducible apply h_);focus first|decide|kernel_rfl)|refine s_ (by decide) ?_|refine t_ (by decide) ?_|with_reducible first|apply l_|apply m_|apply n_|apply o_|refine p_ (fun _=>?_) (fun _=>?_))<;>(conv=>whnf)))
  refine LoopC.mk Nat (fun k=>[(0,rwsV a),(1,rwsV b),(14,.d (.c (.sl 1 [[.sl 1 (a.map rowC)],[.sl 1 (b.map rowC)]]))),(15,pInt .i64 2),(16,pInt .i64 (k:Int))]) (fun _=>[]) [] (fun k=>k=0∨(k=1∧rowsChk a=0)∨(k=2∧rowsChk a=0∧rowsChk b=0)) (fun k=>2 - k) 0 (.inl rfl) ?start ?round
  case start=>exact⟨[],rfl,rfl,⟨.inl rfl,.inl rfl,rfl,PLe.int (by simp),.inl rfl,trivial⟩,trivial⟩
  case round=>
   rintro k (rfl | ⟨rfl,h1⟩ | ⟨rfl,h1,h2⟩)
   ·by_cases h1:rowsChk a=0
    ·rw[h1] at pa
     ((conv=>whnf);repeat' ((first|(with_reducible first|apply a_|apply b_|apply c_)|((with_reducible first|apply d_|apply e_|apply f_|apply g_);focus first|omega|(simp only[q_]<;>omega))|((with_reducible first|apply i_|apply h_);focus first|omega|(simp only[q_]<;>omega))|((with_reducible apply h_);focus first|decide|kernel_rfl)|refine s_ (by decide) ?_|refine t_ (by decide) ?_|(refine Idx.mk [.sl 1 (a.map rowC)] (by decide) rfl ?_)|refine r_ pa rfl ?_|with_reducible first|apply l_|apply m_|apply n_|apply o_|refine p_ (fun _=>?_) (fun _=>?_))<;>(conv=>whnf)))
     all_goals first
      | exact⟨1,.inr (.inl ⟨rfl,h1⟩),by decide,[],rfl,rfl,⟨.inl rfl,.inl rfl,.inl rfl,.inl rfl,PLe.int (by decide),trivial⟩,trivial⟩
      | (exfalso;omega)
      | skip
    ·have hj:joinF2 a b=([],rowsChk a):=by unfold joinF2;rw[if_pos h1]
     rw[hj]
     ((conv=>whnf);repeat' ((first|(with_reducible first|apply a_|apply b_|apply c_)|((with_reducible first|apply d_|apply e_|apply f_|apply g_);focus first|omega|(simp only[q_]<;>omega))|((with_reducible first|apply i_|apply h_);focus first|omega|(simp only[q_]<;>omega))|((with_reducible apply h_);focus first|decide|kernel_rfl)|refine s_ (by decide) ?_|refine t_ (by decide) ?_|(refine Idx.mk [.sl 1 (a.map rowC)] (by decide) rfl ?_)|refine r_ pa rfl ?_|with_reducible first|apply l_|apply m_|apply n_|apply o_|refine p_ (fun _=>?_) (fun _=>?_))<;>(conv=>whnf)))
     all_goals first
      | exact RetS.mk [] [NK] rfl rfl ⟨⟨rfl,rfl,Nat.zero_lt_succ _,rfl,rfl⟩,.inl rfl,rfl⟩ ⟨⟨rfl,Nat.zero_lt_succ _⟩,trivial⟩
      | (exfalso;omega)
      | skip
   ·by_cases h2:rowsChk b=0
    ·rw[h2] at pb
     ((conv=>whnf);repeat' ((first|(with_reducible first|apply a_|apply b_|apply c_)|((with_reducible first|apply d_|apply e_|apply f_|apply g_);focus first|omega|(simp only[q_]<;>omega))|((with_reducible first|apply i_|apply h_);focus first|omega|(simp only[q_]<;>omega))|((with_reducible apply h_);focus first|decide|kernel_rfl)|refine s_ (by decide) ?_|refine t_ (by decide) ?_|(refine Idx.mk [.sl 1 (b.map rowC)] (by decide) rfl ?_)|refine r_ pb rfl ?_|with_reducible first|apply l_|apply m_|apply n_|apply o_|refine p_ (fun _=>?_) (fun _=>?_))<;>(conv=>whnf)))
     all_goals first
      | exact⟨2,.inr (.inr ⟨rfl,h1,h2⟩),by decide,[],rfl,rfl,⟨.inl rfl,.inl rfl,.inl rfl,.inl rfl,PLe.int (by decide),trivial⟩,trivial⟩
      | (exfalso;omega)
      | skip
    ·have hj:joinF2 a b=([],rowsChk b):=by unfold joinF2;rw[if_neg (not_not_intro h1),if_pos h2]
     rw[hj]
     ((conv=>whnf);repeat' ((first|(with_reducible first|apply a_|apply b_|apply c_)|((with_reducible first|apply d_|apply e_|apply f_|apply g_);focus first|omega|(simp only[q_]<;>omega))|((with_reducible first|apply i_|apply h_);focus first|omega|(simp only[q_]<;>omega))|((with_reducible apply h_);focus first|decide|kernel_rfl)|refine s_ (by decide) ?_|refine t_ (by decide) ?_|(refine Idx.mk [.sl 1 (b.map rowC)] (by decide) rfl ?_)|refine r_ pb rfl ?_|with_reducible first|apply l_|apply m_|apply n_|apply o_|refine p_ (fun _=>?_) (fun _=>?_))<;>(conv=>whnf)))
     all_goals first
      | exact RetS.mk [] [NK] rfl rfl ⟨⟨rfl,rfl,Nat.zero_lt_succ _,rfl,rfl⟩,.inl rfl,rfl⟩ ⟨⟨rfl,Nat.zero_lt_succ _⟩,trivial⟩
      | (exfalso;omega)
      | skip
   ·obtain⟨ha40,ha8⟩:=rowsChk_ok.1 h1
    obtain⟨hb40,hb8⟩:=rowsChk_ok.1 h2
    have hmul:a.length*b.length≤40*40:=Nat.mul_le_mul ha40 hb40
    have hmi:((a.length*b.length:Nat):Int)=(a.length:Int)*(b.length:Int):=Int.natCast_mul _ _
    have wa:=p_width a (fun r hr=>by have:=(ha8 r hr).1;omega)
    have wb:=p_width b (fun r hr=>by have:=(hb8 r hr).1;omega)
    have hwa:widthF a≤8:=by
     unfold widthF
     cases a with
     | nil=>exact Nat.zero_le _
     | cons r a=>exact (ha8 r List.mem_cons_self).1
    have hwb:widthF b≤8:=by
     unfold widthF
     cases b with
     | nil=>exact Nat.zero_le _
     | cons r b=>exact (hb8 r List.mem_cons_self).1
    by_cases h3:8<widthF a+widthF b∨40<a.length*b.length
    ·have hj:joinF2 a b=([],2):=by unfold joinF2;rw[if_neg (not_not_intro h1),if_neg (not_not_intro h2),if_pos h3]
     rw[hj]
     ((conv=>whnf);repeat' ((first|(with_reducible first|apply a_|apply b_|apply c_)|((with_reducible first|apply d_|apply e_|apply f_|apply g_);focus first|omega|(simp only[q_]<;>omega))|((with_reducible first|apply i_|apply h_);focus first|omega|(simp only[q_]<;>omega))|((with_reducible apply h_);focus first|decide|kernel_rfl)|refine s_ (by decide) ?_|refine t_ (by decide) ?_|refine r_ wa rfl ?_|refine r_ wb rfl ?_|with_reducible first|apply l_|apply m_|apply n_|apply o_|refine p_ (fun _=>?_) (fun _=>?_))<;>(conv=>whnf)))
     all_goals first
      | exact RetS.mk [] [NK] rfl rfl ⟨⟨rfl,rfl,Nat.zero_lt_succ _,rfl,rfl⟩,.inl rfl,rfl⟩ ⟨⟨rfl,Nat.zero_lt_succ _⟩,trivial⟩
      | (exfalso;omega)
      | skip
    ·((conv=>whnf);repeat' ((first|(with_reducible first|apply a_|apply b_|apply c_)|((with_reducible first|apply d_|apply e_|apply f_|apply g_);focus first|omega|(simp only[q_]<;>omega))|((with_reducible first|apply i_|apply h_);focus first|omega|(simp only[q_]<;>omega))|((with_reducible apply h_);focus first|decide|kernel_rfl)|refine s_ (by decide) ?_|refine t_ (by decide) ?_|refine r_ wa rfl ?_|refine r_ wb rfl ?_|(refine CallP.ret [(NK,70),(NK1,71)] _ _ _ _ _ _ _ pp rfl rfl rfl rfl trivial ?_)|with_reducible first|apply l_|apply m_|apply n_|apply o_|refine p_ (fun _=>?_) (fun _=>?_))<;>(conv=>whnf)))
     all_goals first
      | (exfalso;omega)
      | refine⟨by rw[hG];exact⟨h1,h2,h3⟩,?_,?_,?_,?_,?_,?_⟩
     ·rfl
     ·rfl
     ·rfl
     ·rfl
     ·rfl
     ·rfl
end
section
open Go.RowKit K
set_option maxRecDepth 100000
set_option maxRecDepth 100000
theorem s_stable20 (keys:List KeyD) (hk:keys.length≤1000) (l:List RowT) (hl:l.length<20) (hc:∀k∈keys,∀r∈l,0≤k.Col∧k.Col<r.length):CallS Tryz.prog 75 [.d (.arr FK tRowI 1 0 l.length),pInt .i64 (l.length:Int),.d (keysF keys)] [] [(FK,.arr tRowI 1 (l.map rowC))] (.tup []) [(FK,.arr tRowI 1 ((isrt (ordK keys) l).map rowC))]:=by
 have ps:=s_insort keys hk l (by omega) hc 0 l.length (Nat.zero_le _) (Nat.le_refl _) (isrt (ordK keys) l) (by simp)
 refine callS_of Tryz.func75 (by rfl) rfl (by kernel_rfl) (by rfl) [FK] rfl ?_
 ((conv=>whnf);repeat' ((first|(with_reducible first|apply a_|apply b_|apply c_)|((with_reducible first|apply d_|apply e_|apply f_|apply g_);focus first|omega|(simp only[q_]<;>omega))|((with_reducible first|apply i_|apply h_);focus first|omega|(simp only[q_]<;>omega))|((with_reducible apply h_);focus first|decide|kernel_rfl)|refine s_ (by decide) ?_|refine t_ (by decide) ?_|with_reducible first|apply l_|apply m_|apply n_|apply o_|refine p_ (fun _=>?_) (fun _=>?_))<;>(conv=>whnf)))
 refine LoopC.mk Unit (fun _=>[(0,.d (.arr FK tRowI 1 0 l.length)),(1,pInt .i64 (l.length:Int)),(2,.d (keysF keys)),(6,pInt .i64 20),(7,pInt .i64 0),(8,pInt .i64 20)]) (fun _=>[(FK,.arr tRowI 1 (l.map rowC))]) [FK] (fun _=>True) (fun _=>0) () trivial ?start ?round
 case start=>refine⟨[(FK,FK)],rfl,rfl,?_,?_⟩<;>repeat' (first|exact rfl|exact trivial|exact Or.inl rfl|refine And.intro ?_ ?_)
 case round=>
  intro _ _
  ((conv=>whnf);repeat' ((first|(with_reducible first|apply a_|apply b_|apply c_)|((with_reducible first|apply d_|apply e_|apply f_|apply g_);focus first|omega|(simp only[q_]<;>omega))|((with_reducible first|apply i_|apply h_);focus first|omega|(simp only[q_]<;>omega))|((with_reducible apply h_);focus first|decide|kernel_rfl)|refine s_ (by decide) ?_|refine t_ (by decide) ?_|(refine CallP.ret [(FK,FK)] _ _ _ _ _ _ _ ps rfl rfl rfl rfl ⟨rfl,trivial⟩ ?_)|with_reducible first|apply l_|apply m_|apply n_|apply o_|refine p_ (fun _=>?_) (fun _=>?_))<;>(conv=>whnf)))
  all_goals first
   | (exfalso;omega)
   | skip
  refine LoopC.mk Unit (fun _=>[(0,.d (.arr FK tRowI 1 0 l.length)),(1,pInt .i64 (l.length:Int)),(2,.d (keysF keys)),(6,pInt .i64 20)]) (fun _=>[(FK,.arr tRowI 1 ((isrt (ordK keys) l).map rowC))]) [FK] (fun _=>True) (fun _=>0) () trivial ?start2 ?round2
  case start2=>refine⟨[(FK,FK)],rfl,rfl,?_,?_⟩<;>repeat' (first|exact rfl|exact trivial|exact Or.inl rfl|refine And.intro ?_ ?_)
  case round2=>
   intro _ _
   ((conv=>whnf);repeat' ((first|(with_reducible first|apply a_|apply b_|apply c_)|((with_reducible first|apply d_|apply e_|apply f_|apply g_);focus first|omega|(simp only[q_]<;>omega))|((with_reducible first|apply i_|apply h_);focus first|omega|(simp only[q_]<;>omega))|((with_reducible apply h_);focus first|decide|kernel_rfl)|refine s_ (by decide) ?_|refine t_ (by decide) ?_|with_reducible first|apply l_|apply m_|apply n_|apply o_|refine p_ (fun _=>?_) (fun _=>?_))<;>(conv=>whnf)))
   all_goals first
    | (exfalso;omega)
    | (refine RetS.mk [(FK,FK)] [FK] rfl rfl ?_ ?_<;>repeat' (first|exact rfl|exact trivial|exact Or.inl rfl|refine And.intro ?_ ?_))
theorem s_sortstable20 (keys:List KeyD) (hk:keys.length≤1000) (l:List RowT) (hl:l.length<20) (hc:∀k∈keys,∀r∈l,0≤k.Col∧k.Col<r.length):CallS Tryz.prog 54 [.d (.arr FK tRowI 1 0 l.length),.d (keysF keys)] [] [(FK,.arr tRowI 1 (l.map rowC))] (.tup []) [(FK,.arr tRowI 1 ((isrt (ordK keys) l).map rowC))]:=by
 have ps:=s_stable20 keys hk l hl hc
 refine callS_of Tryz.func54 (by rfl) rfl (by kernel_rfl) (by rfl) [FK] rfl ?_
 ((conv=>whnf);repeat' ((first|(with_reducible first|apply a_|apply b_|apply c_)|((with_reducible first|apply d_|apply e_|apply f_|apply g_);focus first|omega|(simp only[q_]<;>omega))|((with_reducible first|apply i_|apply h_);focus first|omega|(simp only[q_]<;>omega))|((with_reducible apply h_);focus first|decide|kernel_rfl)|refine s_ (by decide) ?_|refine t_ (by decide) ?_|(refine CallP.ret [(FK,FK)] _ _ _ _ _ _ _ ps rfl rfl rfl rfl ⟨rfl,trivial⟩ ?_)|with_reducible first|apply l_|apply m_|apply n_|apply o_|refine p_ (fun _=>?_) (fun _=>?_))<;>(conv=>whnf)))
 refine RetS.mk [(FK,FK)] [FK] rfl rfl ?_ ?_<;>repeat' (first|exact rfl|exact trivial|exact Or.inl rfl|refine And.intro ?_ ?_)
theorem s_own_rows (l:List RowT) (hl:l.length≤1000) (hr:∀r∈l,r.length≤1000):CallS Tryz.prog 53 [rwsV l] [] [] (.d (.arr NK tRowI 1 0 l.length)) [(NK,.arr tRowI 1 (l.map rowC))]:=by
 refine callS_of Tryz.func53 (by rfl) rfl (by kernel_rfl) (by rfl) [] rfl ?_
 ((conv=>whnf);repeat' ((first|(with_reducible first|apply a_|apply b_|apply c_)|((with_reducible first|apply d_|apply e_|apply f_|apply g_);focus first|omega|(simp only[q_]<;>omega))|((with_reducible first|apply i_|apply h_);focus first|omega|(simp only[q_]<;>omega))|((with_reducible apply h_);focus first|decide|kernel_rfl)|refine s_ (by decide) ?_|refine t_ (by decide) ?_|with_reducible first|apply l_|apply m_|apply n_|apply o_|refine p_ (fun _=>?_) (fun _=>?_))<;>(conv=>whnf)))
 refine LoopC.mk Nat (fun k=>[(3,.d (.arr 60 tRowI 1 0 k)),(6,rwsV l),(7,pInt .i64 l.length),(8,pInt .i64 (k:Int))]) (fun k=>[(60,.arr tRowI 1 ((l.take k).map rowC))]) [60] (fun k=>k≤l.length) (fun k=>l.length - k) 0 (Nat.zero_le _) ?start ?round
 case start=>
  refine⟨[],rfl,rfl,?_,?_⟩<;>repeat' (first|exact rfl|exact trivial|exact Or.inl rfl|exact Nat.zero_lt_succ _|refine And.intro ?_ ?_)
  all_goals exact PLe.int (by simp)
 case round=>
  intro k hk
  have hk:k≤l.length:=hk
  by_cases q:k<l.length
  ·have pc:=p_cloneV l[k] (by have:=hr _ (List.getElem_mem q);omega)
   have hml:((l.take k).map rowC).length=k:=by rw[List.length_map,List.length_take];omega
   ((conv=>whnf);repeat' ((first|(with_reducible first|apply a_|apply b_|apply c_)|((with_reducible first|apply d_|apply e_|apply f_|apply g_);focus first|omega|(simp only[q_]<;>omega))|((with_reducible first|apply i_|apply h_);focus first|omega|(simp only[q_]<;>omega))|((with_reducible apply h_);focus first|decide|kernel_rfl)|refine s_ (by decide) ?_|refine t_ (by decide) ?_|(refine Idx.mapI (f:=rowC) k rfl q ?_)|refine r_ pc rfl ?_|(refine Need.by 24 rfl (by simp only[List.length_singleton];omega) ?_)|with_reducible first|apply l_|apply m_|apply n_|apply o_|refine p_ (fun _=>?_) (fun _=>?_))<;>(conv=>whnf)))
   all_goals first
    | (exfalso;omega)
    | skip
   refine⟨k+1,by show k+1≤_;omega,by show l.length - (k+1)<l.length - k;omega,[(60,16)],rfl,rfl,?_,?_⟩<;>repeat' (first|exact rfl|exact trivial|exact Or.inl rfl|refine And.intro ?_ ?_)
   all_goals first|exact PLe.int (by simp) | exact PLe.int (by omega) | skip
   rw[List.take_of_length_le (by omega),take_snoc q,List.map_append];rfl
  ·have e:k=l.length:=by omega
   subst e
   ((conv=>whnf);repeat' ((first|(with_reducible first|apply a_|apply b_|apply c_)|((with_reducible first|apply d_|apply e_|apply f_|apply g_);focus first|omega|(simp only[q_]<;>omega))|((with_reducible first|apply i_|apply h_);focus first|omega|(simp only[q_]<;>omega))|((with_reducible apply h_);focus first|decide|kernel_rfl)|refine s_ (by decide) ?_|refine t_ (by decide) ?_|with_reducible first|apply l_|apply m_|apply n_|apply o_|refine p_ (fun _=>?_) (fun _=>?_))<;>(conv=>whnf)))
   refine RetS.mk [(NK,60)] [NK] rfl rfl ?_ ?_<;>repeat' (first|exact rfl|exact trivial|exact Or.inl rfl|refine And.intro ?_ ?_)
   all_goals first | (show _=l.map rowC;rw[List.take_length]) | skip
def keysBad (l:List RowT):List KeyD→Bool
 | []=>false
 | k::ks=>decide (placesF l [k.Col]≠0)||keysBad l ks
theorem places_one (l:List RowT) (c:Int):placesF l [c]=if 0<l.length∧(c<0∨(widthF l:Int)≤c) then 3 else 0:=rfl
def sortF (l:List RowT) (keys:List KeyD):List RowT×Int:=
 if rowsChk l≠0 then ([],rowsChk l) else if 8<keys.length then ([],2) else if keysBad l keys then ([],3) else (isrt (ordK keys) l,0)
theorem p_Sort20 (l:List RowT) (keys:List KeyD) (h20:rowsChk l=0→8<keys.length∨keysBad l keys=true∨l.length<20):Pure Tryz.prog 30 [rwsV l,slV 2 KeyD.c keys] (.tup [rwsV (sortF l keys).1,pInt .i64 (sortF l keys).2]):=by
 have pc:=p_bagcheck l
 have hkl:(keys.map KeyD.c).length=keys.length:=List.length_map _
 refine pure_of Tryz.func30 (by rfl) rfl (by kernel_rfl) (by rfl) ?_
 unfold sortF
 by_cases h1:rowsChk l=0
 ·rw[if_neg (not_not_intro h1)]
  rw[h1] at pc
  obtain⟨h40,h8⟩:=rowsChk_ok.1 h1
  by_cases h2:8<keys.length
  ·rw[if_pos h2]
   ((conv=>whnf);repeat' ((first|(with_reducible first|apply a_|apply b_|apply c_)|((with_reducible first|apply d_|apply e_|apply f_|apply g_);focus first|omega|(simp only[q_]<;>omega))|((with_reducible first|apply i_|apply h_);focus first|omega|(simp only[q_]<;>omega))|((with_reducible apply h_);focus first|decide|kernel_rfl)|refine s_ (by decide) ?_|refine t_ (by decide) ?_|refine r_ pc rfl ?_|with_reducible first|apply l_|apply m_|apply n_|apply o_|refine p_ (fun _=>?_) (fun _=>?_))<;>(conv=>whnf)))
   all_goals first|exact Ret.le ⟨.inr ⟨⟨1,rfl⟩,.inl rfl⟩,.inl rfl,rfl⟩ | (exfalso;omega)
  ·rw[if_neg h2]
   ((conv=>whnf);repeat' ((first|(with_reducible first|apply a_|apply b_|apply c_)|((with_reducible first|apply d_|apply e_|apply f_|apply g_);focus first|omega|(simp only[q_]<;>omega))|((with_reducible first|apply i_|apply h_);focus first|omega|(simp only[q_]<;>omega))|((with_reducible apply h_);focus first|decide|kernel_rfl)|refine s_ (by decide) ?_|refine t_ (by decide) ?_|refine r_ pc rfl ?_|with_reducible first|apply l_|apply m_|apply n_|apply o_|refine p_ (fun _=>?_) (fun _=>?_))<;>(conv=>whnf)))
   refine LoopC.mk Nat (fun k=>[(0,rwsV l),(1,slV 2 KeyD.c keys),(19,slV 2 KeyD.c keys),(20,pInt .i64 keys.length),(21,pInt .i64 (k:Int))]) (fun _=>[]) [] (fun k=>k≤keys.length∧keysBad l keys=keysBad l (keys.drop k)∧∀x∈keys.take k,placesF l [x.Col]=0) (fun k=>keys.length - k) 0 ⟨Nat.zero_le _,by rw[List.drop_zero],by simp⟩ ?start ?round
   case start=>exact⟨[],rfl,rfl,⟨.inl rfl,.inl rfl,.inl rfl,PLe.int (by simp),.inl rfl,trivial⟩,trivial⟩
   case round=>
    rintro k ⟨hk,hz,hp⟩
    have hk:k≤keys.length:=hk
    have hz:keysBad l keys=keysBad l (keys.drop k):=hz
    have hp:∀x∈keys.take k,placesF l [x.Col]=0:=hp
    by_cases q:k<keys.length
    ·rw[List.drop_eq_getElem_cons q,keysBad] at hz
     have pp:=p_places l (fun r hr=>by have:=(h8 r hr).1;omega) [keys[k].Col] (by simp)
     by_cases h:placesF l [keys[k].Col]=0
     ·rw[h] at pp hz
      have hz:keysBad l keys=keysBad l (keys.drop (k+1)):=hz
      ((conv=>whnf);repeat' ((first|(with_reducible first|apply a_|apply b_|apply c_)|((with_reducible first|apply d_|apply e_|apply f_|apply g_);focus first|omega|(simp only[q_]<;>omega))|((with_reducible first|apply i_|apply h_);focus first|omega|(simp only[q_]<;>omega))|((with_reducible apply h_);focus first|decide|kernel_rfl)|refine s_ (by decide) ?_|refine t_ (by decide) ?_|(refine Idx.mapI (f:=KeyD.c) k rfl q ?_)|refine r_ pp rfl ?_|with_reducible first|apply l_|apply m_|apply n_|apply o_|refine p_ (fun _=>?_) (fun _=>?_))<;>(conv=>whnf)))
      all_goals first
       | (exfalso;omega)
       | skip
      refine⟨k+1,⟨by show k+1≤_;omega,hz,fun x hx=>?_⟩,by show keys.length - (k+1)<keys.length - k;omega,[],rfl,rfl,⟨.inl rfl,.inl rfl,.inl rfl,PLe.int (by simp),PLe.int (by omega),trivial⟩,trivial⟩
      rw[take_snoc q,List.mem_append,List.mem_singleton] at hx
      rcases hx with hx | rfl
      ·exact hp x hx
      ·exact h
     ·have h3:placesF l [keys[k].Col]=3:=by
       rw[places_one] at h ⊢
       split at h
       ·rename_i g;rw[if_pos g]
       ·exact absurd rfl h
      rw[h3] at pp hz
      have hz:keysBad l keys=true:=hz
      rw[if_pos hz]
      ((conv=>whnf);repeat' ((first|(with_reducible first|apply a_|apply b_|apply c_)|((with_reducible first|apply d_|apply e_|apply f_|apply g_);focus first|omega|(simp only[q_]<;>omega))|((with_reducible first|apply i_|apply h_);focus first|omega|(simp only[q_]<;>omega))|((with_reducible apply h_);focus first|decide|kernel_rfl)|refine s_ (by decide) ?_|refine t_ (by decide) ?_|(refine Idx.mapI (f:=KeyD.c) k rfl q ?_)|refine r_ pp rfl ?_|with_reducible first|apply l_|apply m_|apply n_|apply o_|refine p_ (fun _=>?_) (fun _=>?_))<;>(conv=>whnf)))
      all_goals first|exact Ret.le ⟨.inr ⟨⟨1,rfl⟩,.inl rfl⟩,.inl rfl,rfl⟩ | (exfalso;omega)
    ·have e1:keys.take k=keys:=List.take_of_length_le (by omega)
     rw[e1] at hp
     rw[List.drop_of_length_le (by omega)] at hz
     have hz:keysBad l keys=false:=hz
     rw[hz,if_neg (by decide)]
     have hl20:l.length<20:=by
      rcases h20 h1 with g | g | g
      ·exact absurd g h2
      ·rw[hz] at g;cases g
      ·exact g
     have po:=s_own_rows l (by omega) fun r hr=>by have:=(h8 r hr).1;omega
     have ps:=s_sortstable20 keys (by omega) l hl20 fun k hk r hr=>by
      have:=hp k hk
      rw[places_one] at this
      have hlp:0<l.length:=List.length_pos_of_mem hr
      have hw:=(h8 r hr).2.1
      split at this
      ·cases this
      ·rename_i g
       constructor
       ·apply Decidable.byContradiction;intro x;exact g ⟨hlp,.inl (by omega)⟩
       ·apply Decidable.byContradiction;intro x;exact g ⟨hlp,.inr (by omega)⟩
     ((conv=>whnf);repeat' ((first|(with_reducible first|apply a_|apply b_|apply c_)|((with_reducible first|apply d_|apply e_|apply f_|apply g_);focus first|omega|(simp only[q_]<;>omega))|((with_reducible first|apply i_|apply h_);focus first|omega|(simp only[q_]<;>omega))|((with_reducible apply h_);focus first|decide|kernel_rfl)|refine s_ (by decide) ?_|refine t_ (by decide) ?_|(first|refine CallP.ret [(NK,35)] _ _ _ _ _ _ _ po rfl rfl rfl rfl trivial ?_|refine CallP.ret [(FK,35)] _ _ _ _ _ _ _ ps rfl rfl rfl rfl ⟨rfl,trivial⟩ ?_)|with_reducible first|apply l_|apply m_|apply n_|apply o_|refine p_ (fun _=>?_) (fun _=>?_))<;>(conv=>whnf)))
     all_goals first | (exfalso;omega) | skip
     refine Need.mk (by rw[List.length_map,isrt_len];omega) ?_
     ((conv=>whnf);repeat' ((first|(with_reducible first|apply a_|apply b_|apply c_)|((with_reducible first|apply d_|apply e_|apply f_|apply g_);focus first|omega|(simp only[q_]<;>omega))|((with_reducible first|apply i_|apply h_);focus first|omega|(simp only[q_]<;>omega))|((with_reducible apply h_);focus first|decide|kernel_rfl)|refine s_ (by decide) ?_|refine t_ (by decide) ?_|with_reducible first|apply l_|apply m_|apply n_|apply o_|refine p_ (fun _=>?_) (fun _=>?_))<;>(conv=>whnf)))
     refine Ret.eq ?_
     show PV.tup [PV.d (D.c (C.sl 1 (List.take _ (List.drop 0 _)))),_]=_
     rw[List.drop_zero,List.take_of_length_le (by rw[List.length_map,isrt_len];exact Nat.le_refl _)]
 ·rw[if_pos h1]
  ((conv=>whnf);repeat' ((first|(with_reducible first|apply a_|apply b_|apply c_)|((with_reducible first|apply d_|apply e_|apply f_|apply g_);focus first|omega|(simp only[q_]<;>omega))|((with_reducible first|apply i_|apply h_);focus first|omega|(simp only[q_]<;>omega))|((with_reducible apply h_);focus first|decide|kernel_rfl)|refine s_ (by decide) ?_|refine t_ (by decide) ?_|refine r_ pc rfl ?_|with_reducible first|apply l_|apply m_|apply n_|apply o_|refine p_ (fun _=>?_) (fun _=>?_))<;>(conv=>whnf)))
  all_goals first|exact Ret.le ⟨.inr ⟨⟨1,rfl⟩,.inl rfl⟩,.inl rfl,rfl⟩ | (exfalso;omega)
end
section
open Go.RowKit K
set_option maxRecDepth 100000
set_option maxRecDepth 100000
def keepF (f:RowT→Bool×Int):List RowT→List RowT×Int
 | []=>([],0)
 | r::l=>if (f r).2≠0 then ([],(f r).2) else if (keepF f l).2≠0 then ([],(keepF f l).2) else (if (f r).1 then r::(keepF f l).1 else (keepF f l).1,0)
theorem keepF_ok {f:RowT→Bool×Int}:∀{l:List RowT},(∀r∈l,(f r).2=0)→keepF f l=(l.filter (fun r=>(f r).1),0)
 | [],_=>rfl
 | r::l,h=>by
  have ih:=keepF_ok (l:=l) fun x hx=>h x (List.mem_cons_of_mem _ hx)
  have h0:=h r List.mem_cons_self
  rw[keepF,if_neg (not_not_intro h0),ih,if_neg (show ¬(0:Int)≠0 by decide),List.filter_cons]
theorem keepF_err {f:RowT→Bool×Int}:∀{l:List RowT} {k:Nat} (hk:k<l.length),(∀r∈l.take k,(f r).2=0)→(f l[k]).2≠0→keepF f l=([],(f l[k]).2)
 | r::l,0,hk,_,h=>by rw[keepF];exact if_pos h
 | r::l,k+1,hk,hp,h=>by
  have hk':k<l.length:=by simpa using hk
  have h':(f l[k]).2≠0:=h
  have ih:=keepF_err (l:=l) (k:=k) hk' (fun x hx=>hp x (by rw[List.take_succ_cons];exact List.mem_cons_of_mem _ hx)) h'
  rw[keepF,if_neg (not_not_intro (hp r (by rw[List.take_succ_cons];exact List.mem_cons_self))),ih]
  exact if_pos h'
theorem filter_snoc {f:RowT→Bool} {l:List RowT} {k:Nat} (h:k<l.length):(l.take (k+1)).filter f=if f l[k] then (l.take k).filter f++[l[k]] else (l.take k).filter f:=by
 rw[take_snoc h,List.filter_append,List.filter_cons,List.filter_nil]
 cases f l[k]<;>simp
noncomputable def truF (e:List NodeD) (cols:List (List UInt8)) (r:RowT):Bool×Int:=(decide ((truR (evalF e cols r)).1=2),(truR (evalF e cols r)).2)
abbrev eBx (e:List NodeD):HB:=.box 61 [.c (.sl 6 (e.map NodeD.c))]
abbrev cBx (cols:List (List UInt8)):HB:=.box 59 [.c (.sl 1 (cols.map eText))]
theorem s_filter1 (e:List NodeD) (hn:∀n∈e,hNode n) (cols:List (List UInt8)) (row:RowT) (hr:row.length≤140737488355328) (hv:∀v∈row,WholeP.In64 v.N):CallS Tryz.prog 51 [slV 3 ValueD.c row,.d (.ptr FK 0),.d (.ptr FK1 0)] [(FK,eBx e),(FK1,cBx cols)] [] (.tup [pBool (truF e cols row).1,pInt .i64 (truF e cols row).2]) []:=by
 have pt:=p_truthE e hn cols row hr hv
 refine callS_of Tryz.func51 (by rfl) rfl (by kernel_rfl) (by rfl) [FK,FK1] rfl ?_
 ((conv=>whnf);repeat' ((first|(with_reducible first|apply a_|apply b_|apply c_)|((with_reducible first|apply d_|apply e_|apply f_|apply g_);focus first|omega|(simp only[q_]<;>omega))|((with_reducible first|apply i_|apply h_);focus first|omega|(simp only[q_]<;>omega))|((with_reducible apply h_);focus first|decide|kernel_rfl)|refine s_ (by decide) ?_|refine t_ (by decide) ?_|refine r_ pt rfl ?_|with_reducible first|apply l_|apply m_|apply n_|apply o_|refine p_ (fun _=>?_) (fun _=>?_))<;>(conv=>whnf)))
 refine RetS.mk [(FK,FK),(FK1,FK1)] [FK,FK1] rfl rfl ?_ ?_<;>(repeat' (first|exact rfl|exact trivial|exact Or.inl rfl|refine And.intro ?_ ?_))
theorem s_kept_filter (l:List RowT) (hl:l.length≤1000) (hr:∀r∈l,r.length≤1000∧∀v∈r,WholeP.In64 v.N) (e:List NodeD) (hn:∀n∈e,hNode n) (cols:List (List UInt8)):CallS Tryz.prog 35 [rwsV l,.d (.clo 51 [] [.ptr FK 0,.ptr FK1 0])] [(FK,eBx e),(FK1,cBx cols)] [] (.tup [rwsV (keepF (truF e cols) l).1,pInt .i64 (keepF (truF e cols) l).2]) []:=by
 refine callS_of Tryz.func35 (by rfl) rfl (by kernel_rfl) (by rfl) [FK,FK1] rfl ?_
 ((conv=>whnf);repeat' ((first|(with_reducible first|apply a_|apply b_|apply c_)|((with_reducible first|apply d_|apply e_|apply f_|apply g_);focus first|omega|(simp only[q_]<;>omega))|((with_reducible first|apply i_|apply h_);focus first|omega|(simp only[q_]<;>omega))|((with_reducible apply h_);focus first|decide|kernel_rfl)|refine s_ (by decide) ?_|refine t_ (by decide) ?_|with_reducible first|apply l_|apply m_|apply n_|apply o_|refine p_ (fun _=>?_) (fun _=>?_))<;>(conv=>whnf)))
 refine LoopC.mk Nat (fun k=>[(1,.d (.clo 51 [] [.ptr FK 0,.ptr FK1 0])),(6,.d (.app 60 33 1 (((l.take k).filter fun r=>(truF e cols r).1).map rowC))),(11,rwsV l),(12,pInt .i64 l.length),(13,pInt .i64 (k:Int))]) (fun _=>[(FK,eBx e),(FK1,cBx cols),(60,.tail 33 1)]) [FK,FK1,60] (fun k=>k≤l.length∧∀r∈l.take k,(truF e cols r).2=0) (fun k=>l.length - k) 0 ⟨Nat.zero_le _,by simp⟩ ?start ?round
 case start=>
  refine⟨[(FK,FK),(FK1,FK1)],rfl,rfl,?_,?_⟩<;>repeat' (first|exact rfl|exact trivial|exact Or.inl rfl|exact Nat.zero_lt_succ _|refine And.intro ?_ ?_)
  all_goals exact PLe.int (by simp)
 case round=>
  rintro k ⟨hk,hz⟩
  have hk:k≤l.length:=hk
  have hz:∀r∈l.take k,(truF e cols r).2=0:=hz
  have hfl:((l.take k).filter fun r=>(truF e cols r).1).length≤k:=by
   have:=List.length_filter_le (fun r=>(truF e cols r).1) (l.take k)
   rw[List.length_take] at this
   omega
  by_cases q:k<l.length
  ·have hm:=List.getElem_mem q
   have pf:=s_filter1 e hn cols l[k] (by have:=(hr _ hm).1;omega) (hr _ hm).2
   have pc:=p_cloneV l[k] (by have:=(hr _ hm).1;omega)
   by_cases hx:(truF e cols l[k]).2=0
   ·have hz2:∀r∈l.take (k+1),(truF e cols r).2=0:=fun r hr=>by
     rw[take_snoc q,List.mem_append,List.mem_singleton] at hr
     rcases hr with hr | rfl
     ·exact hz r hr
     ·exact hx
    have hsn:=filter_snoc (f:=fun r=>(truF e cols r).1) q
    cases hb:(truF e cols l[k]).1 with
    | true=>
     rw[hb,hx] at pf
     rw[hb,if_pos rfl] at hsn
     ((conv=>whnf);repeat' ((first|(with_reducible first|apply a_|apply b_|apply c_)|((with_reducible first|apply d_|apply e_|apply f_|apply g_);focus first|omega|(simp only[q_]<;>omega))|((with_reducible first|apply i_|apply h_);focus first|omega|(simp only[q_]<;>omega))|((with_reducible apply h_);focus first|decide|kernel_rfl)|refine s_ (by decide) ?_|refine t_ (by decide) ?_|(refine Idx.mapI (f:=rowC) k rfl q ?_)|(refine CallP.ret [(FK,FK),(FK1,FK1)] _ _ _ _ _ _ _ pf rfl rfl rfl rfl ⟨rfl,rfl,trivial⟩ ?_)|refine r_ pc rfl ?_|(refine Need.by 24 rfl (by simp only[List.length_map,List.length_singleton];omega) ?_)|with_reducible first|apply l_|apply m_|apply n_|apply o_|refine p_ (fun _=>?_) (fun _=>?_))<;>(conv=>whnf)))
     all_goals first
      | (exfalso;omega)
      | skip
     refine⟨k+1,⟨by show k+1≤_;omega,hz2⟩,by show l.length - (k+1)<l.length - k;omega,[(FK,FK),(FK1,FK1),(60,31)],rfl,rfl,?_,?_⟩<;>repeat' (first|exact rfl|exact trivial|exact Or.inl rfl|exact (show _=(List.filter _ (l.take (k+1))).map rowC by rw[hsn,List.map_append];rfl) | refine And.intro ?_ ?_)
     all_goals first|exact PLe.int (by simp) | exact PLe.int (by omega)
    | false=>
     rw[hb,hx] at pf
     rw[hb,if_neg (by decide)] at hsn
     ((conv=>whnf);repeat' ((first|(with_reducible first|apply a_|apply b_|apply c_)|((with_reducible first|apply d_|apply e_|apply f_|apply g_);focus first|omega|(simp only[q_]<;>omega))|((with_reducible first|apply i_|apply h_);focus first|omega|(simp only[q_]<;>omega))|((with_reducible apply h_);focus first|decide|kernel_rfl)|refine s_ (by decide) ?_|refine t_ (by decide) ?_|(refine Idx.mapI (f:=rowC) k rfl q ?_)|(refine CallP.ret [(FK,FK),(FK1,FK1)] _ _ _ _ _ _ _ pf rfl rfl rfl rfl ⟨rfl,rfl,trivial⟩ ?_)|refine r_ pc rfl ?_|(refine Need.by 24 rfl (by simp only[List.length_map,List.length_singleton];omega) ?_)|with_reducible first|apply l_|apply m_|apply n_|apply o_|refine p_ (fun _=>?_) (fun _=>?_))<;>(conv=>whnf)))
     all_goals first
      | (exfalso;omega)
      | skip
     refine⟨k+1,⟨by show k+1≤_;omega,hz2⟩,by show l.length - (k+1)<l.length - k;omega,[(FK,FK),(FK1,FK1),(60,60)],rfl,rfl,?_,?_⟩<;>repeat' (first|exact rfl|exact trivial|exact Or.inl rfl|exact (show _=(List.filter _ (l.take (k+1))).map rowC by rw[hsn]) | refine And.intro ?_ ?_)
     all_goals first|exact PLe.int (by simp) | exact PLe.int (by omega)
   ·rw[keepF_err q hz hx]
    ((conv=>whnf);repeat' ((first|(with_reducible first|apply a_|apply b_|apply c_)|((with_reducible first|apply d_|apply e_|apply f_|apply g_);focus first|omega|(simp only[q_]<;>omega))|((with_reducible first|apply i_|apply h_);focus first|omega|(simp only[q_]<;>omega))|((with_reducible apply h_);focus first|decide|kernel_rfl)|refine s_ (by decide) ?_|refine t_ (by decide) ?_|(refine Idx.mapI (f:=rowC) k rfl q ?_)|(refine CallP.ret [(FK,FK),(FK1,FK1)] _ _ _ _ _ _ _ pf rfl rfl rfl rfl ⟨rfl,rfl,trivial⟩ ?_)|refine r_ pc rfl ?_|(refine Need.by 24 rfl (by simp only[List.length_map,List.length_singleton];omega) ?_)|with_reducible first|apply l_|apply m_|apply n_|apply o_|refine p_ (fun _=>?_) (fun _=>?_))<;>(conv=>whnf)))
    all_goals first
     | (exfalso;omega)
     | (refine RetS.mk [(FK,FK),(FK1,FK1)] [FK,FK1] rfl rfl ?_ ?_<;>repeat' (first|exact rfl|exact trivial|exact Or.inl rfl|exact Or.inr ⟨⟨1,rfl⟩,.inl rfl⟩ | refine And.intro ?_ ?_))
  ·have e1:l.take k=l:=List.take_of_length_le (by omega)
   rw[e1] at hz ⊢
   rw[keepF_ok hz]
   ((conv=>whnf);repeat' ((first|(with_reducible first|apply a_|apply b_|apply c_)|((with_reducible first|apply d_|apply e_|apply f_|apply g_);focus first|omega|(simp only[q_]<;>omega))|((with_reducible first|apply i_|apply h_);focus first|omega|(simp only[q_]<;>omega))|((with_reducible apply h_);focus first|decide|kernel_rfl)|refine s_ (by decide) ?_|refine t_ (by decide) ?_|with_reducible first|apply l_|apply m_|apply n_|apply o_|refine p_ (fun _=>?_) (fun _=>?_))<;>(conv=>whnf)))
   all_goals first
    | (exfalso;omega)
    | (refine RetS.mk [(FK,FK),(FK1,FK1)] [FK,FK1] rfl rfl ?_ ?_<;>repeat' (first|exact rfl|exact trivial|exact Or.inl rfl|exact Or.inr ⟨⟨1,rfl⟩,.inl rfl⟩ | refine And.intro ?_ ?_))
noncomputable def filtF (l:List RowT) (cols:List (List UInt8)) (e:List NodeD):List RowT×Int:=
 if rowsChk l≠0 then ([],rowsChk l) else if checkF e≠0 then ([],checkF e) else keepF (truF e cols) l
theorem p_Filter (l:List RowT) (hv:∀r∈l,∀v∈r,WholeP.In64 v.N) (cols:List (List UInt8)) (e:List NodeD) (hn:∀n∈e,hNode n):Pure Tryz.prog 25 [rwsV l,slV 1 eText cols,slV 6 NodeD.c e] (.tup [rwsV (filtF l cols e).1,pInt .i64 (filtF l cols e).2]):=by
 have pc:=p_bagcheck l
 have pe:=p_echeck e fun n h=>(hn n h).1
 refine pure_of Tryz.func25 (by rfl) rfl (by kernel_rfl) (by rfl) ?_
 unfold filtF
 by_cases h1:rowsChk l=0
 ·rw[if_neg (not_not_intro h1)]
  rw[h1] at pc
  obtain⟨h40,h8⟩:=rowsChk_ok.1 h1
  by_cases h2:checkF e=0
  ·rw[if_neg (not_not_intro h2)]
   rw[h2] at pe
   have pk:=s_kept_filter l (by omega) (fun r hr=>⟨by have:=(h8 r hr).1;omega,hv r hr⟩) e hn cols
   ((conv=>whnf);repeat' ((first|(with_reducible first|apply a_|apply b_|apply c_)|((with_reducible first|apply d_|apply e_|apply f_|apply g_);focus first|omega|(simp only[q_]<;>omega))|((with_reducible first|apply i_|apply h_);focus first|omega|(simp only[q_]<;>omega))|((with_reducible apply h_);focus first|decide|kernel_rfl)|refine s_ (by decide) ?_|refine t_ (by decide) ?_|refine r_ pc rfl ?_|refine r_ pe rfl ?_|(refine CallP.ret [(FK,5),(FK1,4)] _ _ _ _ _ _ _ pk rfl rfl rfl rfl ⟨rfl,rfl,trivial⟩ ?_)|with_reducible first|apply l_|apply m_|apply n_|apply o_|refine p_ (fun _=>?_) (fun _=>?_))<;>(conv=>whnf)))
   all_goals first|exact Ret.eq rfl | (exfalso;omega)
  ·rw[if_pos h2]
   ((conv=>whnf);repeat' ((first|(with_reducible first|apply a_|apply b_|apply c_)|((with_reducible first|apply d_|apply e_|apply f_|apply g_);focus first|omega|(simp only[q_]<;>omega))|((with_reducible first|apply i_|apply h_);focus first|omega|(simp only[q_]<;>omega))|((with_reducible apply h_);focus first|decide|kernel_rfl)|refine s_ (by decide) ?_|refine t_ (by decide) ?_|refine r_ pc rfl ?_|refine r_ pe rfl ?_|with_reducible first|apply l_|apply m_|apply n_|apply o_|refine p_ (fun _=>?_) (fun _=>?_))<;>(conv=>whnf)))
   all_goals first|exact Ret.le ⟨.inr ⟨⟨1,rfl⟩,.inl rfl⟩,.inl rfl,rfl⟩ | (exfalso;omega)
 ·rw[if_pos h1]
  ((conv=>whnf);repeat' ((first|(with_reducible first|apply a_|apply b_|apply c_)|((with_reducible first|apply d_|apply e_|apply f_|apply g_);focus first|omega|(simp only[q_]<;>omega))|((with_reducible first|apply i_|apply h_);focus first|omega|(simp only[q_]<;>omega))|((with_reducible apply h_);focus first|decide|kernel_rfl)|refine s_ (by decide) ?_|refine t_ (by decide) ?_|refine r_ pc rfl ?_|with_reducible first|apply l_|apply m_|apply n_|apply o_|refine p_ (fun _=>?_) (fun _=>?_))<;>(conv=>whnf)))
  all_goals first|exact Ret.le ⟨.inr ⟨⟨1,rfl⟩,.inl rfl⟩,.inl rfl,rfl⟩ | (exfalso;omega)
end
section
open Go.RowKit K
set_option maxRecDepth 100000
def nmap (seen:List (List UInt8)):List (ByteArray×Value):=seen.map fun s=>(tx s,.agg #[])
theorem mpGet_nmap:∀(seen:List (List UInt8)) (s:List UInt8),mpGet (nmap seen) (tx s)=if s∈seen then some (.agg #[]) else none
 | [],s=>rfl
 | a::l,s=>by
  show (bif decide (tx s=tx a) then _ else _)=_
  by_cases h:s=a
  ·subst h;simp
  ·have:¬tx s=tx a:=fun e=>h (tx_inj e)
   rw[decide_eq_false this,cond_false]
   show mpGet (nmap l) (tx s)=_
   rw[mpGet_nmap l s]
   simp[h]
theorem mpPut_nmap:∀(seen:List (List UInt8)) (s:List UInt8),mpPut (nmap seen) (tx s) (.agg #[])=if s∈seen then nmap seen else nmap (seen++[s])
 | [],s=>rfl
 | a::l,s=>by
  show (bif decide (tx s=tx a) then _ else _)=_
  by_cases h:s=a
  ·subst h;simp[nmap]
  ·have:¬tx s=tx a:=fun e=>h (tx_inj e)
   rw[decide_eq_false this,cond_false]
   show _::mpPut (nmap l) (tx s) _=_
   rw[mpPut_nmap l s]
   by_cases h2:s∈l
   ·simp[h2,nmap]
   ·simp[h,h2,nmap]
theorem nmap_plain (seen:List (List UInt8)):∀p∈nmap seen,plainV p.2=true:=by
 intro p hp
 obtain⟨s,_,rfl⟩:=List.mem_map.1 hp
 rfl
end
section
open Go.RowKit K NumP NumW NumRd NumZ NumL
set_option maxRecDepth 100000
abbrev z0:ValueD:=⟨0,0,[]⟩
def fin (vs:List ValueD) (at_:Nat) (z:List ValueD×Nat×Int):List ValueD×Nat×Int:=if z.2.2≠0 then ([],0,z.2.2) else (vs++z.1,at_+z.2.1,0)
end
section
open Go.RowKit K NumP NumW NumRd NumZ NumL
set_option maxRecDepth 100000
abbrev tVal:Nat:=36
end
section
open Go.RowKit K NumP NumW NumRd NumZ NumL
set_option maxRecDepth 100000
end
section
open Go.RowKit K NumP NumW NumRd NumZ NumL
set_option maxRecDepth 100000
end
section
open Go.RowKit
set_option maxRecDepth 100000
abbrev tByte:Nat:=5
end
section
open Go.RowKit K NumP NumW NumRd NumZ NumL
set_option maxRecDepth 100000
def rowChk (l:List ValueD):Int:=if 8<l.length then 2 else vChkAll l
theorem rowChk_ok {l:List ValueD} (h:rowChk l=0):l.length≤8∧∀v∈l,vChk v=0:=by
 unfold rowChk at h
 split at h
 ·cases h
 ·exact⟨by omega,vChkAll_ok.1 h⟩
theorem p_rowchk (l:List ValueD) (hl:l.length≤140737488355328):Pure Tryz.prog 62 [slV 3 ValueD.c l] (pInt .i64 (rowChk l)):=by
 refine pure_of Tryz.func62 (by rfl) rfl (by kernel_rfl) (by rfl) ?_
 unfold rowChk
 by_cases h:8<l.length
 ·rw[if_pos h]
  ((conv=>whnf);repeat' ((first|(with_reducible first|apply a_|apply b_|apply c_)|((with_reducible first|apply d_|apply e_|apply f_|apply g_);focus first|omega|(simp only[q_]<;>omega))|((with_reducible first|apply i_|apply h_);focus first|omega|(simp only[q_]<;>omega))|((with_reducible apply h_);focus first|decide|kernel_rfl)|refine s_ (by decide) ?_|refine t_ (by decide) ?_|with_reducible first|apply l_|apply m_|apply n_|apply o_|refine p_ (fun _=>?_) (fun _=>?_))<;>(conv=>whnf)))
  exact Ret.mk rfl
 ·rw[if_neg h]
  ((conv=>whnf);repeat' ((first|(with_reducible first|apply a_|apply b_|apply c_)|((with_reducible first|apply d_|apply e_|apply f_|apply g_);focus first|omega|(simp only[q_]<;>omega))|((with_reducible first|apply i_|apply h_);focus first|omega|(simp only[q_]<;>omega))|((with_reducible apply h_);focus first|decide|kernel_rfl)|refine s_ (by decide) ?_|refine t_ (by decide) ?_|refine r_ (p_checkall l hl) rfl ?_|with_reducible first|apply l_|apply m_|apply n_|apply o_|refine p_ (fun _=>?_) (fun _=>?_))<;>(conv=>whnf)))
  exact Ret.mk rfl
theorem vChk_inv {v:ValueD} (h:vChk v=0):(0≤v.Kind∧v.Kind≤3)∧(v.Kind≠1→v.N=0)∧(v.Kind<2→v.S=[])∧v.S.length≤16:=by
 unfold vChk at h
 split at h
 ·cases h
 ·split at h
  ·cases h
  ·split at h
   ·cases h
   ·rename_i h1 h2 h3
    refine⟨by omega,fun q=>by omega,fun q=>?_,by omega⟩
    exact List.eq_nil_of_length_eq_zero (by omega)
theorem byteRows_append (a b:List UInt8):byteRows (a++b)=byteRows a++byteRows b:=by unfold byteRows;rw[List.map_append]
end
section
open Go.RowKit K NumP NumW NumRd NumZ NumL
set_option maxRecDepth 100000
end
end Go.Proofs.YtegpnpdnanfhbaaGreatDoor.Pm
