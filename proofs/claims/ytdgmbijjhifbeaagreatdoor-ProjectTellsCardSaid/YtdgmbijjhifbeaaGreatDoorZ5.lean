/- Parts of the proof, one behind the other: PbRows PmDefer PbRng PbCat PbRef PbRef3 PbJoin PbLimit PdOrd PbOrder PbGrp PbGrp2 PbIns PbSort PxEval. Conditions: none beyond what each theorem says. -/
import Derived.Recover
import Derived.Lib.AppendZerosOnto
import Derived.Test.YtdgmbijjhifbeaaGreatDoorYValOrd
import Derived.Test.YtdgmbijjhifbeaaGreatDoorYWholeSum
import Derived.Test.YtdgmbijjhifbeaaGreatDoorYLikeTop
import Derived.Test.YtdgmbijjhifbeaaGreatDoorYWholeWalk
import Derived.Test.YtdgmbijjhifbeaaGreatDoorZ4
set_option linter.unusedVariables false
set_option linter.unusedSimpArgs false
namespace Go.Proofs.YtdgmbijjhifbeaaGreatDoor.Pm
section
open Go.RowKit K
set_option maxRecDepth 100000
set_option maxRecDepth 100000
abbrev RowT:=List ValueD
def rowC (r:RowT):List C:=[.sl 3 (r.map ValueD.c)]
abbrev rwsV (l:List RowT):PV:=.d (.c (.sl 1 (l.map rowC)))
def rChkW (w:Nat):List RowT→Int
  | []=>0
  | r::l=>if 8<r.length then 2 else if r.length≠w then 1 else if vChkAll r≠0 then vChkAll r else rChkW w l
def widthF (l:List RowT):Nat:=(l.headD []).length
def rowsChk (l:List RowT):Int:=if 40<l.length then 2 else rChkW (widthF l) l
theorem rChkW_skip {w:Nat}:∀(l:List RowT) (k:Nat),(∀r∈l.take k,r.length≤8∧r.length=w∧vChkAll r=0)→rChkW w l=rChkW w (l.drop k)
  | l,0,_=>by rw[List.drop_zero]
  | [],k+1,_=>rfl
  | r::l,k+1,h=>by
    obtain⟨h1,h2,h3⟩:=h r (by rw[List.take_succ_cons];exact List.mem_cons_self)
    rw[rChkW,if_neg (by omega),if_neg (not_not_intro h2),if_neg (not_not_intro h3),List.drop_succ_cons]
    exact rChkW_skip l k fun x hx=>h x (by rw[List.take_succ_cons];exact List.mem_cons_of_mem _ hx)
theorem rChkW_at {w:Nat} {l:List RowT} {k:Nat} (hk:k<l.length) (h:∀r∈l.take k,r.length≤8∧r.length=w∧vChkAll r=0):rChkW w l=if 8<l[k].length then 2 else if l[k].length≠w then 1 else if vChkAll l[k]≠0 then vChkAll l[k] else rChkW w (l.drop (k+1)):=by
  rw[rChkW_skip l k h,List.drop_eq_getElem_cons hk,rChkW]
theorem rChkW_ok {w:Nat}:∀{l:List RowT},rChkW w l=0↔∀r∈l,r.length≤8∧r.length=w∧vChkAll r=0
  | []=>⟨fun _ r h=>absurd h List.not_mem_nil,fun _=>rfl⟩
  | r::l=>by
    rw[rChkW]
    constructor
    · intro h
      split at h
      · cases h
      rename_i h8
      split at h
      · cases h
      rename_i hw
      split at h
      · rename_i hv;exact absurd h hv
      rename_i hv
      intro x hx
      rcases List.mem_cons.1 hx with rfl | hx
      · exact⟨by omega,Decidable.of_not_not hw,Decidable.of_not_not hv⟩
      · exact rChkW_ok.1 h x hx
    · intro h
      obtain⟨h1,h2,h3⟩:=h r List.mem_cons_self
      rw[if_neg (by omega),if_neg (not_not_intro h2),if_neg (not_not_intro h3)]
      exact rChkW_ok.2 fun x hx=>h x (List.mem_cons_of_mem _ hx)
theorem width_get {l:List RowT} (h:0<l.length):l[0].length=widthF l:=by
  cases l with
  | nil=>cases h
  | cons r l=>rfl
theorem rowsChk_ok {l:List RowT}:rowsChk l=0↔l.length≤40∧∀r∈l,r.length≤8∧r.length=widthF l∧vChkAll r=0:=by
  unfold rowsChk
  by_cases h:40<l.length
  · rw[if_pos h]
    exact⟨fun x=>(by cases x),fun x=>(by omega)⟩
  · rw[if_neg h,rChkW_ok]
    exact⟨fun x=>⟨by omega,x⟩,fun x=>x.2⟩
theorem p_width (l:List RowT) (hr:∀r∈l,r.length≤140737488355328):Pure Tryz.prog 59 [rwsV l] (pInt .i64 (widthF l:Int)):=by
  have hml:(l.map rowC).length=l.length:=List.length_map _
  refine pure_of Tryz.func59 (by rfl) rfl (by kernel_rfl) (by rfl) ?_
  by_cases h:0<l.length
  · have hw:=width_get h
    have hm:(l[0].map ValueD.c).length=l[0].length:=List.length_map _
    ((conv=>whnf);repeat' ((first|(with_reducible first|apply a_|apply b_|apply c_)|((with_reducible first|apply d_|apply e_|apply f_|apply g_);focus first|omega|(simp only[q_]<;>omega))|((with_reducible first|apply i_|apply h_);focus first|omega|(simp only[q_]<;>omega))|((with_reducible apply h_);focus first|decide|kernel_rfl)|refine s_ (by decide) ?_|refine t_ (by decide) ?_|(refine Idx.mapI (f:=rowC) 0 rfl h ?_)|with_reducible first|apply l_|apply m_|apply n_|apply o_|refine p_ (fun _=>?_) (fun _=>?_))<;>(conv=>whnf)))
    all_goals first|exact Ret.int (by omega) | (exfalso;omega)
  · have e:l=[]:=List.eq_nil_of_length_eq_zero (by omega)
    subst e
    ((conv=>whnf);repeat' ((first|(with_reducible first|apply a_|apply b_|apply c_)|((with_reducible first|apply d_|apply e_|apply f_|apply g_);focus first|omega|(simp only[q_]<;>omega))|((with_reducible first|apply i_|apply h_);focus first|omega|(simp only[q_]<;>omega))|((with_reducible apply h_);focus first|decide|kernel_rfl)|refine s_ (by decide) ?_|refine t_ (by decide) ?_|with_reducible first|apply l_|apply m_|apply n_|apply o_|refine p_ (fun _=>?_) (fun _=>?_))<;>(conv=>whnf)))
    all_goals first|exact Ret.mk rfl | (exfalso;omega)
theorem p_bagcheck (l:List RowT):Pure Tryz.prog 19 [rwsV l] (pInt .i64 (rowsChk l)):=by
  have hml:(l.map rowC).length=l.length:=List.length_map _
  refine pure_of Tryz.func19 (by rfl) rfl (by kernel_rfl) (by rfl) ?_
  unfold rowsChk
  by_cases h40:40<l.length
  · rw[if_pos h40]
    ((conv=>whnf);repeat' ((first|(with_reducible first|apply a_|apply b_|apply c_)|((with_reducible first|apply d_|apply e_|apply f_|apply g_);focus first|omega|(simp only[q_]<;>omega))|((with_reducible first|apply i_|apply h_);focus first|omega|(simp only[q_]<;>omega))|((with_reducible apply h_);focus first|decide|kernel_rfl)|refine s_ (by decide) ?_|refine t_ (by decide) ?_|with_reducible first|apply l_|apply m_|apply n_|apply o_|refine p_ (fun _=>?_) (fun _=>?_))<;>(conv=>whnf)))
    all_goals first|exact Ret.int rfl | (exfalso;omega)
  · rw[if_neg h40]
    ((conv=>whnf);repeat' ((first|(with_reducible first|apply a_|apply b_|apply c_)|((with_reducible first|apply d_|apply e_|apply f_|apply g_);focus first|omega|(simp only[q_]<;>omega))|((with_reducible first|apply i_|apply h_);focus first|omega|(simp only[q_]<;>omega))|((with_reducible apply h_);focus first|decide|kernel_rfl)|refine s_ (by decide) ?_|refine t_ (by decide) ?_|with_reducible first|apply l_|apply m_|apply n_|apply o_|refine p_ (fun _=>?_) (fun _=>?_))<;>(conv=>whnf)))
    refine LoopC.mk Nat (fun k=>[(0,rwsV l),(9,rwsV l),(10,pInt .i64 l.length),(11,pInt .i64 (k:Int))]) (fun _=>[]) [] (fun k=>k≤l.length∧∀r∈l.take k,r.length≤8∧r.length=widthF l∧vChkAll r=0) (fun k=>l.length - k) 0 ⟨Nat.zero_le _,by simp⟩ ?start ?round
    case start=>exact⟨[],rfl,rfl,⟨.inl rfl,.inl rfl,PLe.int (by simp),.inl rfl,trivial⟩,trivial⟩
    case round=>
      rintro k ⟨hk,hz⟩
      have hk:k≤l.length:=hk
      have hz:∀r∈l.take k,r.length≤8∧r.length=widthF l∧vChkAll r=0:=hz
      by_cases q:k<l.length
      · have q0:0<l.length:=by omega
        have hw:=width_get q0
        have hm:(l[k].map ValueD.c).length=l[k].length:=List.length_map _
        have hm0:(l[0].map ValueD.c).length=l[0].length:=List.length_map _
        rw[rChkW_at q hz]
        by_cases h8:8<l[k].length
        · rw[if_pos h8]
          ((conv=>whnf);repeat' ((first|(with_reducible first|apply a_|apply b_|apply c_)|((with_reducible first|apply d_|apply e_|apply f_|apply g_);focus first|omega|(simp only[q_]<;>omega))|((with_reducible first|apply i_|apply h_);focus first|omega|(simp only[q_]<;>omega))|((with_reducible apply h_);focus first|decide|kernel_rfl)|refine s_ (by decide) ?_|refine t_ (by decide) ?_|(first|refine Idx.mapI (f:=rowC) k rfl q ?_|refine Idx.mapI (f:=rowC) 0 rfl q0 ?_)|with_reducible first|apply l_|apply m_|apply n_|apply o_|refine p_ (fun _=>?_) (fun _=>?_))<;>(conv=>whnf)))
          all_goals first|exact Ret.int rfl | (exfalso;omega)
        · rw[if_neg h8]
          by_cases hwk:l[k].length≠widthF l
          · rw[if_pos hwk]
            ((conv=>whnf);repeat' ((first|(with_reducible first|apply a_|apply b_|apply c_)|((with_reducible first|apply d_|apply e_|apply f_|apply g_);focus first|omega|(simp only[q_]<;>omega))|((with_reducible first|apply i_|apply h_);focus first|omega|(simp only[q_]<;>omega))|((with_reducible apply h_);focus first|decide|kernel_rfl)|refine s_ (by decide) ?_|refine t_ (by decide) ?_|(first|refine Idx.mapI (f:=rowC) k rfl q ?_|refine Idx.mapI (f:=rowC) 0 rfl q0 ?_)|with_reducible first|apply l_|apply m_|apply n_|apply o_|refine p_ (fun _=>?_) (fun _=>?_))<;>(conv=>whnf)))
            all_goals first|exact Ret.int rfl | (exfalso;omega)
          · rw[if_neg hwk]
            have hwk:l[k].length=widthF l:=Decidable.of_not_not hwk
            have pc:=p_checkall l[k] (by omega)
            by_cases hv:vChkAll l[k]≠0
            · rw[if_pos hv]
              ((conv=>whnf);repeat' ((first|(with_reducible first|apply a_|apply b_|apply c_)|((with_reducible first|apply d_|apply e_|apply f_|apply g_);focus first|omega|(simp only[q_]<;>omega))|((with_reducible first|apply i_|apply h_);focus first|omega|(simp only[q_]<;>omega))|((with_reducible apply h_);focus first|decide|kernel_rfl)|refine s_ (by decide) ?_|refine t_ (by decide) ?_|(first|refine Idx.mapI (f:=rowC) k rfl q ?_|refine Idx.mapI (f:=rowC) 0 rfl q0 ?_)|refine r_ pc rfl ?_|with_reducible first|apply l_|apply m_|apply n_|apply o_|refine p_ (fun _=>?_) (fun _=>?_))<;>(conv=>whnf)))
              all_goals first|exact Ret.int rfl | (exfalso;omega)
            · have hv:vChkAll l[k]=0:=Decidable.of_not_not hv
              rw[hv,if_neg (by decide),← rChkW_skip l (k+1) (fun r hr=>by
                rw[take_snoc q,List.mem_append,List.mem_singleton] at hr
                rcases hr with hr | rfl
                · exact hz r hr
                · exact⟨by omega,hwk,hv⟩)]
              rw[hv] at pc
              ((conv=>whnf);repeat' ((first|(with_reducible first|apply a_|apply b_|apply c_)|((with_reducible first|apply d_|apply e_|apply f_|apply g_);focus first|omega|(simp only[q_]<;>omega))|((with_reducible first|apply i_|apply h_);focus first|omega|(simp only[q_]<;>omega))|((with_reducible apply h_);focus first|decide|kernel_rfl)|refine s_ (by decide) ?_|refine t_ (by decide) ?_|(first|refine Idx.mapI (f:=rowC) k rfl q ?_|refine Idx.mapI (f:=rowC) 0 rfl q0 ?_)|refine r_ pc rfl ?_|with_reducible first|apply l_|apply m_|apply n_|apply o_|refine p_ (fun _=>?_) (fun _=>?_))<;>(conv=>whnf)))
              all_goals first
                | (exfalso;omega)
                | skip
              refine⟨k+1,⟨by show k+1≤_;omega,fun r hr=>?_⟩,by show l.length - (k+1)<l.length - k;omega,[],rfl,rfl,⟨.inl rfl,.inl rfl,PLe.int (by simp),PLe.int (by omega),trivial⟩,trivial⟩
              rw[take_snoc q,List.mem_append,List.mem_singleton] at hr
              rcases hr with hr | rfl
              · exact hz r hr
              · exact⟨by omega,hwk,hv⟩
      · have e:l.take k=l:=List.take_of_length_le (by omega)
        rw[e] at hz
        rw[rChkW_ok.2 hz]
        ((conv=>whnf);repeat' ((first|(with_reducible first|apply a_|apply b_|apply c_)|((with_reducible first|apply d_|apply e_|apply f_|apply g_);focus first|omega|(simp only[q_]<;>omega))|((with_reducible first|apply i_|apply h_);focus first|omega|(simp only[q_]<;>omega))|((with_reducible apply h_);focus first|decide|kernel_rfl)|refine s_ (by decide) ?_|refine t_ (by decide) ?_|with_reducible first|apply l_|apply m_|apply n_|apply o_|refine p_ (fun _=>?_) (fun _=>?_))<;>(conv=>whnf)))
        all_goals first|exact Ret.int rfl | (exfalso;omega)
theorem p_own_rows (l:List RowT) (hl:l.length≤1000) (hr:∀r∈l,r.length≤1000):Pure Tryz.prog 58 [rwsV l] (rwsV l):=by
  refine pure_of Tryz.func58 (by rfl) rfl (by kernel_rfl) (by rfl) ?_
  ((conv=>whnf);repeat' ((first|(with_reducible first|apply a_|apply b_|apply c_)|((with_reducible first|apply d_|apply e_|apply f_|apply g_);focus first|omega|(simp only[q_]<;>omega))|((with_reducible first|apply i_|apply h_);focus first|omega|(simp only[q_]<;>omega))|((with_reducible apply h_);focus first|decide|kernel_rfl)|refine s_ (by decide) ?_|refine t_ (by decide) ?_|with_reducible first|apply l_|apply m_|apply n_|apply o_|refine p_ (fun _=>?_) (fun _=>?_))<;>(conv=>whnf)))
  refine LoopC.mk Nat (fun k=>[(3,.d (.app 60 49 1 ((l.take k).map rowC))),(6,rwsV l),(7,pInt .i64 l.length),(8,pInt .i64 (k:Int))]) (fun _=>[(60,.tail 49 1)]) [60] (fun k=>k≤l.length) (fun k=>l.length - k) 0 (Nat.zero_le _) ?start ?round
  case start=>exact⟨[],rfl,rfl,⟨⟨rfl,rfl,Nat.zero_lt_succ _,rfl,rfl⟩,.inl rfl,PLe.int (by simp),.inl rfl,trivial⟩,⟨rfl,Nat.zero_lt_succ _⟩,trivial⟩
  case round=>
    intro k hk
    have hk:k≤l.length:=hk
    by_cases q:k<l.length
    · have pc:=p_cloneV l[k] (by have:=hr _ (List.getElem_mem q);omega)
      ((conv=>whnf);repeat' ((first|(with_reducible first|apply a_|apply b_|apply c_)|((with_reducible first|apply d_|apply e_|apply f_|apply g_);focus first|omega|(simp only[q_]<;>omega))|((with_reducible first|apply i_|apply h_);focus first|omega|(simp only[q_]<;>omega))|((with_reducible apply h_);focus first|decide|kernel_rfl)|refine s_ (by decide) ?_|refine t_ (by decide) ?_|(refine Idx.mapI (f:=rowC) k rfl q ?_)|refine r_ pc rfl ?_|(refine Need.by 24 rfl (by simp only[List.length_map,List.length_take,List.length_singleton];omega) ?_)|with_reducible first|apply l_|apply m_|apply n_|apply o_|refine p_ (fun _=>?_) (fun _=>?_))<;>(conv=>whnf)))
      all_goals first
        | exact⟨k+1,by show k+1≤_;omega,by show l.length - (k+1)<l.length - k;omega,[(60,16)],rfl,rfl,⟨⟨rfl,rfl,rfl,rfl,by rw[take_snoc q,List.map_append];rfl⟩,.inl rfl,PLe.int (by simp),PLe.int (by omega),trivial⟩,⟨rfl,rfl,rfl⟩,trivial⟩
        | (exfalso;omega)
    · have e:l.take k=l:=List.take_of_length_le (by omega)
      rw[e]
      ((conv=>whnf);repeat' ((first|(with_reducible first|apply a_|apply b_|apply c_)|((with_reducible first|apply d_|apply e_|apply f_|apply g_);focus first|omega|(simp only[q_]<;>omega))|((with_reducible first|apply i_|apply h_);focus first|omega|(simp only[q_]<;>omega))|((with_reducible apply h_);focus first|decide|kernel_rfl)|refine s_ (by decide) ?_|refine t_ (by decide) ?_|with_reducible first|apply l_|apply m_|apply n_|apply o_|refine p_ (fun _=>?_) (fun _=>?_))<;>(conv=>whnf)))
      all_goals first|exact Ret.mk rfl | (exfalso;omega)
end
section
open Go.RowKit
def seqs:List Code→Code→Code
  | [],t=>t
  | c::l,t=>.seq c (seqs l t)
noncomputable def vcPre (P:Program) (nt:Nat) (fk:List Nat) (X:XT):List Code→(Env→Hp→List Nat→Prop)→Cont→Env→Hp→List Nat→Prop
  | [],N,_,e,h,n=>N e h n
  | c::l,N,Q,e,h,n=>vc P nt fk X c e h n (seqK (fun e h n=>vcPre P nt fk X l N Q e h n) Q)
section
variable {P:Program}
theorem sw_df {c:Ctx} {σ:Sg} {h:Hp} {w:World} (hs:SW c σ h w) (d:List Deferred) (s:Sg) (hsg:∀k x,s k=some x→σ k=some x):SW { c with df:=d,σ0:=s } σ h w:=
  ⟨hs.os,hs.tape,hs.output,hs.size,hs.block,hs.hp,hs.inj,hs.kept,hs.shape,hsg⟩
theorem ctx_df {c:Ctx} (hc:c.Ok) (d:List Deferred) (s:Sg):Ctx.Ok { c with df:=d,σ0:=s }:=⟨hc.fz,hc.gl,hc.gb⟩
end
end
section
open Go.RowKit K
set_option maxRecDepth 100000
set_option maxRecDepth 100000
abbrev TT:Nat:=22
abbrev TE:Nat:=49
abbrev nilC:D:=.c (.v (.slice none 0 0))
abbrev r0:Rf:=[(9,.box TT [nilC])]
abbrev hR (rows:List (List C)):Rf:=[(9,.box TT [.app 60 TE 1 rows]),(60,.tail TE 1)]
abbrev hR' (rows:List (List C)):Rf:=[(9,.box TT [.app 61 TE 1 rows]),(61,.tail TE 1)]
theorem flat_one {α:Type}:∀A:List α,(A.map fun c=>[c]).flatten=A
  | []=>rfl
  | x::xs=>by rw[List.map_cons,List.flatten_cons,flat_one xs];rfl
theorem csRep_get2 {F:Fzn} {w:World}:∀{A:List C} {us:List Value} {i:Nat} {c:C} {u:Value},CsRep F w A us→A[i]? = some c→us[i]? = some u→CRep F w c u
  | A,us,i,c,u,h,h1,h2=>by
    obtain⟨v,q1,q2⟩:=h.get h1
    rw[h2] at q1;cases q1;exact q2
theorem prs_rep {F:Fzn} {w:World}:∀{A B:List C} {xa xb:List Value},CsRep F w A xa→CsRep F w B xb→∀(i:Nat) (p:Value×Value),(prs xa xb)[i]? = some p→∃q,(prs A B)[i]? = some q∧CRep F w q.1 p.1∧CRep F w q.2 p.2
  | [],B,xa,xb,hA,hB,i,p,hp=>by rw[csRep_nil_inv hA] at hp;simp[prs] at hp
  | x::A,B,xa,xb,hA,hB,i,p,hp=>by
    obtain⟨u,vs,rfl,h1,h2⟩:=csRep_inv hA
    have e1:prs (u::vs) xb=(xb.map fun y=>(u,y))++prs vs xb:=by unfold prs;rw[List.flatMap_cons]
    have e2:prs (x::A) B=(B.map fun y=>(x,y))++prs A B:=by unfold prs;rw[List.flatMap_cons]
    have hl:=hB.len
    rw[e1] at hp
    rw[e2]
    by_cases hi:i<xb.length
    · rw[List.getElem?_append_left (by simpa using hi)] at hp
      rw[List.getElem?_append_left (by rw[List.length_map];omega)]
      rw[List.getElem?_map,List.getElem?_eq_getElem hi] at hp
      simp only[Option.map_some,Option.some.injEq] at hp
      subst hp
      have hi2:i<B.length:=by omega
      refine⟨(x,B[i]),by rw[List.getElem?_map,List.getElem?_eq_getElem hi2];rfl,h1,csRep_get2 hB (List.getElem?_eq_getElem hi2) (List.getElem?_eq_getElem hi)⟩
    · rw[List.getElem?_append_right (by rw[List.length_map];omega),List.length_map] at hp
      rw[List.getElem?_append_right (by rw[List.length_map];omega),List.length_map,← hl]
      exact prs_rep h2 hB _ p hp
theorem prs_len {α β:Type} (A:List α) (B:List β):(prs A B).length=A.length*B.length:=by
  unfold prs
  induction A with
  | nil=>simp
  | cons x xs ih=>rw[List.flatMap_cons,List.length_append,ih,List.length_map,List.length_cons,Nat.add_mul];omega
section
variable {c:Ctx} {σ:Sg} {h:Hp} {w:World}
theorem fz_box (hc:c.Ok) (hs:SW c σ h w) {b o g n k T:Nat} {l:List D} (hf:fz c σ h w b o) (hk:h k=some (.box T l)) (hσ:σ k=some (some g,n)):b≠g:=by
  rintro rfl
  have hb:=hb_block (hs.hp k _ hk) hσ
  rcases hf with ⟨f1,f2⟩ | ⟨f1,f2,f3⟩
  · rcases hb.2 with q | q
    · omega
    · exact (hc.fz _ _ f2).2 q
  · exact f3 k n _ hk hσ
theorem box_seen (hc:c.Ok) (hs:SW c σ h w) {k T g9 n9 T9:Nat} {l9:List D} {A:List C} (hk:h k=some (.box T [.c (.sl 1 (A.map fun c=>[c]))])) (h9:h 9=some (.box T9 l9)) (hσ9:σ 9=some (some g9,n9)) (hne:k≠9) :
    ∃(g n cap:Nat) (a:Option Addr) (us:List Value),σ k=some (some g,n)∧CsRep (fz c σ h w) w A us∧
      ∀W:World,w.heap.size≤W.heap.size→(∀b,b<w.heap.size→b≠g9→W.heap[b]? = w.heap[b]?)→Seen W (.slice a A.length cap) A.length 1 us∧W.cell? ⟨g,0,none⟩=some (.slice a A.length cap):=by
  obtain⟨g,n,cs,q1,q2,q3,q4⟩:=hs.hp k _ hk
  have hgg:g≠g9:=by
    rintro rfl
    exact hne (hs.inj k 9 g n n9 (by rw[hk];simp) (by rw[h9];simp) q1 hσ9)
  have hglt:g<w.heap.size:=(Array.getElem?_eq_some_iff.1 q3).1
  obtain⟨va,vs,e1,p1,p2⟩:=dsRep_inv q4
  have e2:=dsRep_nil_inv p2
  subst e2
  unfold DRep CRep at p1
  obtain⟨a,cap,rfl,c1,c2,c3,c4⟩:=p1
  rw[List.length_map] at c1
  have hcell:∀W:World,W.heap[g]? = w.heap[g]?→W.cell? ⟨g,0,none⟩=some (.slice a A.length cap):=by
    intro W hW
    rw[cell_of_row W g 0 cs T (0,0) (hW.trans q3)]
    have:cs=#[.slice a (A.map fun c=>[c]).length cap]:=by rw[← Array.toArray_toList (xs:=cs),e1]
    rw[this,List.length_map];rfl
  rcases c4 with c4 | ⟨b,off,rfl,c5⟩
  · have hA:A=[]:=by simpa using c4
    subst hA
    exact⟨g,n,cap,a,[],q1,csRep_nil,fun W hle hW=>⟨⟨rfl,a,cap,rfl,c1,c2,c3,.inl rfl⟩,hcell W (hW g hglt hgg)⟩⟩
  · obtain⟨_,c6⟩:=rowsAt_iff.1 c5
    rw[flat_one] at c6
    obtain⟨us,u1,u2,u3⟩:=csAt_values c6
    refine⟨g,n,cap,_,us,q1,u1,fun W hle hW=>⟨⟨by rw[u1.len,Nat.mul_one],_,cap,rfl,c1,c2,c3,?_⟩,hcell W (hW g hglt hgg)⟩⟩
    by_cases hz:A.length=0
    · exact .inl hz
    · have hf0:=u3 0 (by omega)
      have hb1:=fz_lt hs hf0
      have hb2:=fz_box hc hs hf0 h9 hσ9
      refine .inr ⟨b,off,rfl,by omega,fun j u hu=>?_⟩
      have:=u2 j u hu
      unfold World.cell? at this ⊢
      rw[hW b hb1 hb2];exact this
theorem sw_other (hs:SW c σ h w) {l:Nat} {o o':Obj} (hl:c.n0≤l) (ho:w.heap[l]? = some o) (hn:o.isCells=false) (hm:∀es cl,o≠.map es cl) (hn':o'.isCells=false) :
    Evo σ σ (fz c σ h w) (fz c σ h (w.putObj l o')) w (w.putObj l o')∧SW c σ h (w.putObj l o'):=by
  have hlt:l<w.heap.size:=(Array.getElem?_eq_some_iff.1 ho).1
  have hsz:(w.putObj l o').heap.size=w.heap.size:=by simp
  have hcellN:∀(W:World) (q:Obj) (off:Nat),W.heap[l]? = some q→q.isCells=false→W.cell? ⟨l,off,none⟩=none:=by
    intro W q off hq hc
    unfold World.cell?
    rw[hq]
    cases q<;>simp_all [Obj.isCells]
  have hnew:(w.putObj l o').heap[l]? = some o':=World.putObj_heap_same hlt
  have ev:Evo σ σ (fz c σ h w) (fz c σ h (w.putObj l o')) w (w.putObj l o'):=by
    refine⟨fun _ _ h=>h,⟨fun b o hf=>?_,fun b off hf=>?_⟩,fun g cur e fr hg=>⟨cur,fr,?_,rfl⟩⟩
    · unfold fz;rw[hsz];exact hf
    · by_cases q:b=l
      · subst q;rw[hcellN _ _ _ hnew hn',hcellN _ _ _ ho hn]
      · unfold World.cell?
        rw[World.putObj_heap_other q]
    · have:g≠l:=by rintro rfl;rw[ho] at hg;cases hg;cases hn
      rw[World.putObj_heap_other this];exact hg
  refine⟨ev,hs.os,hs.tape,hs.output,by rw[hsz];exact hs.size,fun b h1 h2=>?_,fun k hb hk=>(hs.hp k hb hk).evo ev fun g n hg=>?_,hs.inj,hs.kept.trans ev.keeps,hs.shape.trans ev.shape,hs.sg0⟩
  · rw[World.putObj_heap_other (by omega)];exact hs.block b h1 h2
  · refine World.putObj_heap_other ?_
    rintro rfl
    have:=hs.hp k hb hk
    cases hb with
    | box bt l=>obtain⟨g',n',cs,h1,h2,h3,h4⟩:=this;rw[hg] at h1;cases h1;rw[ho] at h3;cases h3;cases hn
    | tail e sz=>
      obtain⟨_,ob,n',h1,h2⟩:=this
      rw[hg] at h1;cases h1
      obtain⟨_,cur,h3⟩:=h2
      rw[ho] at h3;cases h3;cases hn
    | arr e sz rows=>
      obtain⟨_,_,ob,n',h1,h2⟩:=this
      rw[hg] at h1;cases h1
      obtain⟨_,cur,h3,_⟩:=h2
      rw[ho] at h3;cases h3;cases hn
    | mp l=>obtain⟨g',n',es,cl,h1,h2,h3,h4⟩:=this;rw[hg] at h1;cases h1;rw[ho] at h3;cases h3;exact hm _ _ rfl
    | darr e sz rows=>
      obtain⟨_,_,ob,n',h1,h2⟩:=this
      rw[hg] at h1;cases h1
      obtain⟨_,cur,h3,_⟩:=h2
      rw[ho] at h3;cases h3;cases hn
end
theorem app_delta {rf out:Rf} (hn:ndK out=true):Dl.app (hpL rf) (deltaOf rf out)=hpL out:=by
  funext k
  unfold deltaOf
  rw[app_append]
  by_cases hk:∃b,(k,b)∈out
  · obtain⟨b,hb⟩:=hk
    rw[app_somes_in (b:=b) (fun b' hb'=>by have e1:=mem_hpL hn hb;have e2:=mem_hpL hn hb';rw[e1] at e2;cases e2;rfl) hb,mem_hpL hn hb]
  · rw[app_somes_out hk]
    have hno:hpL out k=none:=by
      cases q:hpL out k with
      | none=>rfl
      | some b=>exact absurd ⟨b,hpL_mem q⟩ hk
    rw[hno]
    refine app_nones_in ?_
    by_cases hr:∃b,(k,b)∈rf
    · exact .inr hr
    · refine .inl ?_
      cases q:hpL rf k with
      | none=>rfl
      | some b=>exact absurd ⟨b,hpL_mem q⟩ hr
def roundE (rows:List (List C)):Cont:=fun x e h n=>match x with
  | .normal=>∃n',Wk [9,60] e h [] (hR' rows) n'
  | _=>False
abbrev env9:Env:=ofL [(9,.d (.ptr 9 0))]
abbrev envX (x y:C):Env:=upd (upd (upd (upd env9 43 (.d (.c x))) 44 (.d (.c y))) 10 (.d (.c x))) 11 (.d (.c y))
def isAssign (o:Oper) (d s:Nat):Prop:=o.op=.assign (.tmp s)∧o.dst=some d∧o.guard=none
section
variable {P:Program} {nt:Nat} {c:Ctx} {σ:Sg} {e:Env} {h:Hp} {a:Act} {w:World}
theorem assign_in {l m id d s:Nat} {o:Oper} (ho:isAssign o d s) {Q:Exit→Act→World→Prop} {a:Act} {w:World} (h:Q .normal (a.put (some d) (a.eval (.tmp s))) w):(Code.region id #[o] false).wpIn (Fence.wide.inRound l) m P Q a w:=by
  refine wpIn_region_list ?_
  show wpListIn _ _ _ _ _ [o] a w
  unfold wpListIn
  rw[if_pos (by unfold Region.wanted;rw[ho.2.2])]
  refine opIn_of_wp (fun c e=>by rw[ho.1] at e;cases e) ?_
  unfold Oper.wp
  have e1:(execOp a.eval o).run P w=.ok (.value (a.eval (.tmp s))) w:=by simp[execOp,ho.1]
  rw[e1]
  show wpListIn (Fence.wide.inRound l) m P #[o] Q [] (a.put o.dst _) w
  rw[ho.2.1]
  exact h
theorem key_cells {rows:List (List C)} (hs:SW c σ (hpL (hR rows)) w) {k b m:Nat} {hb:HB} (hk:(k,hb)∈hR rows) (hσ:σ k=some (some b,m)):∃cs e fr,w.heap[b]? = some (.cells cs e fr):=by
  have:=hs.hp k hb (mem_hpL (by rfl) hk)
  rcases List.mem_cons.1 hk with q | q
  · cases q
    obtain⟨g,n,cs,h1,h2,h3,h4⟩:=this
    rw[hσ] at h1;cases h1
    exact⟨_,_,_,h3⟩
  · rw[List.mem_singleton] at q
    cases q
    obtain⟨_,ob,n',h1,h2⟩:=this
    rw[hσ] at h1;cases h1
    obtain⟨_,cur,h3⟩:=h2
    exact⟨_,_,_,h3⟩
theorem rep_any {σ:Sg} {F:Fzn} {w:World} {u:Value}:PRep σ F w .any u:=by unfold PRep;trivial
theorem range_out (hc:c.Ok) (hm:P.follows .mixedOrders=true) (hs:St c nt σ e h a w) {g:Operand} {gf:Nat} {lb:Array Value} {body:Code} {id1 id2:Nat} {o1 o2:Oper} {Q:Exit→Act→World→Prop}
    (hg:a.eval g=.func (.func gf) #[] lb) (eg:∀args w,(callFunc gf args).run P w=.ok (.enter gf args) w)
    (h9e:e 9=.d (.ptr 9 0)) (h9:h 9=some (.box TT [nilC])) (h60:σ 60=none) (hnt:44<nt) (ha1:isAssign o1 10 43) (ha2:isAssign o2 11 44)
    {A B:List C} {xa xb:List Value} (hA:CsRep (fz c σ h w) w A xa) (hB:CsRep (fz c σ h w) w B xb) {T0:World→Prop}
    (hseq:SeqP Fence.wide 5 P gf lb (fun x:Value×Value=>#[x.1,x.2]) (prs xa xb) T0)
    (hT0:∀W,w.heap.size≤W.heap.size→(∀b,b<w.heap.size→(∀n,σ 9≠some (some b,n))→W.heap[b]? = w.heap[b]?)→T0 W)
    (f:C×C→List C) (hok:okIn body=true)
    (hround:∀(i:Nat) (p:C×C),(prs A B)[i]? = some p→vc P nt [9,60] (fun _ _ _ _=>False) body (envX p.1 p.2) (hpL (hR (((prs A B).take i).map f))) [9,60] (roundE (((prs A B).take (i+1)).map f)))
    (hdone:∀(D:Nat) (W:World) (σ':Sg),w.heap.size≤D→W.heap[D]? = some (.deferred (some []))→
      Evo σ σ' (fz c σ h w) (fz c σ' (Dl.app h (deltaOf r0 (hR ((prs A B).map f)))) W) w W→SW c σ' (Dl.app h (deltaOf r0 (hR ((prs A B).map f)))) W→(∀k,k∉[9,60]→σ k=none→σ' k=none)→
      Q .normal { a with defers:={ target:=.collected D,args:=#[] }::a.defers } W) :
    (Code.rangeFunc g #[43,44] ((Code.region id1 #[o1] false).seq (Code.region id2 #[o2] false)) body).wpIn Fence.wide 6 P Q a w:=by
  have hnm:namesOk [(9,9),(60,60)] [] r0 (hR ((prs A B).map f))=true:=rfl
  have hr1:RR [(9,9),(60,60)] r0 r0:=⟨_,_,_,rfl,rfl,rfl,rfl⟩
  have hr2:∀rows,RR [(9,9),(60,60)] (hR rows) (hR rows):=fun rows=>⟨_,_,_,rfl,rfl,rfl,_,_,_,rfl,rfl,rfl,rfl⟩
  have hin:∀p∈([]:Rf)++r0,h p.1=some p.2:=by
    intro p hp
    rw[List.nil_append,List.mem_singleton] at hp
    subst hp;exact h9
  have hσ9:∃g9 n9,σ 9=some (some g9,n9):=by
    obtain⟨g,n,cs,q1,_⟩:=hs.hp 9 _ h9
    exact⟨g,n,q1⟩
  obtain⟨g9,n9,hσ9⟩:=hσ9
  have hfr:Fresh σ (deltaOf r0 (hR ((prs A B).map f))) ([]++r0):=by
    intro k hk hno
    have:k=9∨k=60:=by simpa [Dl.keys,deltaOf] using hk
    rcases this with rfl | rfl
    · exact absurd rfl (hno (9,.box TT [nilC]) (by simp))
    · exact h60
  obtain⟨hCo,hCfr,hCk,hCs,fin⟩:=frame_world (res0:=.any) (res:=.any) hnm (rfl:RR [(9,9),(60,60)] [] []) hr1 (hr2 _) (by unfold renP;rfl) hc hs.toSW hin hfr
  obtain⟨C,hC⟩:∃C,C=calleeC c [(9,9),(60,60)] σ h w ([]++r0):=⟨_,rfl⟩
  have hCw:C.w0=w:=by rw[hC];rfl
  have hCσ:C.σ0=sg0 [(9,9),(60,60)] σ:=by rw[hC];rfl
  have hCF:C.F1=fz c σ h w:=by rw[hC];rfl
  have hC9:C.σ0 9=σ 9:=by rw[hCσ];rfl
  have hCn:∀k,k∉[9]→C.σ0 k=none:=fun k hk=>by rw[hCσ];exact hCfr k (by simpa using hk)
  have hCfk:∀k,C.σ0 k≠none→k∈[9]:=fun k hk=>Classical.byContradiction fun q=>hk (hCn k q)
  have hCe:∀b,C.ext b→∃n,σ 9=some (some b,n):=by
    rintro b hb
    rw[hC] at hb
    obtain⟨k,hb',m,q1,q2⟩:=hb
    have:=hpL_mem q1
    rw[List.nil_append,List.mem_singleton] at this
    cases this
    exact⟨m,q2⟩
  rw[← hC] at hCo hCk hCs fin
  rw[← hCσ] at hCk hCs
  have hCn0:C.n0=w.heap.size:=by show C.w0.heap.size=_;rw[hCw]
  have hpx:=prs_rep hA hB
  have hlen:(prs xa xb).length=(prs A B).length:=by rw[prs_len,prs_len,hA.len,hB.len]
  have h9v:a.tmps.getD 9 undef=.pointer (some ⟨g9,0,none⟩):=by
    have:=hs.env 9
    rw[h9e] at this
    unfold PRep DRep at this
    obtain⟨g,n,q1,q2⟩:=this
    rw[hσ9] at q1;cases q1;exact q2
  refine range_plain (a₁:=fun x=>(((({ tmps:=a.tmps,defers:=[] }:Act).put (some 43) x.1).put (some 44) x.2).put (some 10) x.1).put (some 11) x.2) rfl (by decide) hg trivial eg hseq (fun _=>rfl)
    (fun pre W=>∃σ',SW C σ' (hpL (hR (((prs A B).take pre.length).map f))) W∧∀k,k∉[9,60]→σ' k=none) ?hT ?hIp ?hIa ?hId ?h0 ?assign ?body ?done
  case hT=>
    rintro s W ⟨σ',q1,_⟩
    refine hT0 W (by have:=q1.size;omega) fun b hb hne=>?_
    have:=q1.block b (by omega) (fun he=>by obtain⟨n,q⟩:=hCe b he;exact hne n q)
    rw[hCw] at this;exact this
  case hIp=>
    rintro s W l r r' ⟨σ',q1,q2⟩ hl hr
    exact⟨σ',(sw_other q1 (by omega) hr rfl (fun _ _ e=>by cases e) rfl).2,q2⟩
  case hIa=>
    rintro s W o ⟨σ',q1,q2⟩
    exact⟨σ',sw_below q1 ((Below.refl _ W).alloc (Nat.le_refl _) o),q2⟩
  case hId=>
    rintro s W ⟨σ',q1,q2⟩
    exact⟨σ',sw_below q1 (Below.refl _ W).drew,q2⟩
  case h0=>
    obtain⟨_,q⟩:=sw_wk (fk:=[9]) (f:=fnL [(9,9)]) (n:=[9,60]) (lh:=hR []) hCfk hCs rfl rfl ⟨⟨rfl,rfl,⟨rfl,rfl,Nat.zero_lt_succ _,rfl,rfl⟩,rfl⟩,⟨rfl,Nat.zero_lt_succ _⟩,trivial⟩
    exact⟨_,q,fun k hk=>by unfold newSg;rw[if_neg fun e=>hk (kin_mem e)]⟩
  case assign=>
    intro l x W K hK
    have hact:({ tmps:=((#[43,44]:Array Tmp).zip #[x.1,x.2]).foldl (fun t (p,v)=>t.setIfInBounds p v) a.tmps,defers:=[] }:Act)=(({ tmps:=a.tmps,defers:=[] }:Act).put (some 43) x.1).put (some 44) x.2:=by simp[Act.put]
    rw[hact]
    refine wpIn_seq (assign_in ha1 ?_)
    refine assign_in ha2 ?_
    have hn:=hs.nt
    have e1:((({ tmps:=a.tmps,defers:=[] }:Act).put (some 43) x.1).put (some 44) x.2).eval (.tmp 43)=x.1:=by
      simp[Act.eval,Act.put,hn,Array.getElem?_setIfInBounds,show 43<nt by omega]
    have e2:(((({ tmps:=a.tmps,defers:=[] }:Act).put (some 43) x.1).put (some 44) x.2).put (some 10) x.1).eval (.tmp 44)=x.2:=by
      simp[Act.eval,Act.put,hn,Array.getElem?_setIfInBounds,show 44<nt by omega]
    rw[e1,e2]
    exact hK
  case body=>
    rintro l pre x W ⟨σ',q1,q2⟩ hx hsz
    obtain⟨q,hq,r1,r2⟩:=hpx _ _ hx
    obtain⟨i,hi⟩:∃i,i=pre.length:=⟨_,rfl⟩
    rw[← hi] at q1 hq hx
    have hnm2:namesOk [(9,9),(60,60),(61,61)] [] (hR (((prs A B).take i).map f)) (hR' (((prs A B).take (i+1)).map f))=true:=rfl
    have hra:RR [(9,9),(60,60),(61,61)] (hR (((prs A B).take i).map f)) (hR (((prs A B).take i).map f)):=⟨_,_,_,rfl,rfl,rfl,_,_,_,rfl,rfl,rfl,rfl⟩
    have hrb:RR [(9,9),(60,60),(61,61)] (hR' (((prs A B).take (i+1)).map f)) (hR' (((prs A B).take (i+1)).map f)):=⟨_,_,_,rfl,rfl,rfl,_,_,_,rfl,rfl,rfl,rfl⟩
    obtain⟨hi1,hi2⟩:(∀p∈([]:Rf)++hR (((prs A B).take i).map f),hpL (hR (((prs A B).take i).map f)) p.1=some p.2)∧Fresh σ' (deltaOf (hR (((prs A B).take i).map f)) (hR' (((prs A B).take (i+1)).map f))) ([]++hR (((prs A B).take i).map f)):=by
      refine⟨fun p hp=>mem_hpL (by rfl) hp,fun k hk hno=>q2 k fun hm=>?_⟩
      rcases List.mem_cons.1 hm with rfl | hm
      · exact hno _ (List.mem_cons_self ..) rfl
      · rw[List.mem_singleton] at hm
        subst hm
        exact hno _ (List.mem_cons_of_mem _ (List.mem_cons_self ..)) rfl
    obtain⟨hDo,hDfr,hDk,hDs,fin2⟩:=frame_world (res0:=.any) (res:=.any) hnm2 (rfl:RR [(9,9),(60,60),(61,61)] [] []) hra hrb (by unfold renP;rfl) hCo q1 hi1 hi2
    obtain⟨D,hDD⟩:∃D,D=calleeC C [(9,9),(60,60),(61,61)] σ' (hpL (hR (((prs A B).take i).map f))) W ([]++hR (((prs A B).take i).map f)):=⟨_,rfl⟩
    have hDw:D.w0=W:=by rw[hDD];rfl
    have hDσ:D.σ0=sg0 [(9,9),(60,60),(61,61)] σ':=by rw[hDD];rfl
    have hDdf:D.df=[]:=by rw[hDD];rfl
    have hDn0:D.n0=W.heap.size:=by show D.w0.heap.size=_;rw[hDw]
    have hD9:D.σ0 9=some (some g9,n9):=by
      rw[hDσ]
      show σ' 9=_
      exact q1.sg0 9 _ (hC9.trans hσ9)
    have hDe:∀b,D.ext b→∃cs e fr,W.heap[b]? = some (.cells cs e fr):=by
      rintro b hb
      rw[hDD] at hb
      obtain⟨_,_,k',hb',m,g1,g2⟩:=ext_own hra q1 hi1 hb
      exact key_cells q1 g1 g2
    rw[← hDD] at hDo hDk hDs fin2
    rw[← hDσ] at hDk hDs hDfr
    have hDn:∀k,k∉[9,60]→D.σ0 k=none:=fun k hk=>hDfr k hk
    have hDfk:∀k,D.σ0 k≠none→k∈[9,60]:=fun k hk=>Classical.byContradiction fun q=>hk (hDn k q)
    have hkk:Keeps (fz c σ h w) (fz D D.σ0 (hpL (hR (((prs A B).take i).map f))) W) w W:=by
      have:=q1.kept
      rw[hCF,hCw] at this
      exact this.trans hDk
    have hv1:PRep D.σ0 (fz D D.σ0 (hpL (hR (((prs A B).take i).map f))) W) W (.d (.c q.1)) x.1:=by unfold PRep DRep;exact CRep.keeps hkk _ _ r1
    have hv2:PRep D.σ0 (fz D D.σ0 (hpL (hR (((prs A B).take i).map f))) W) W (.d (.c q.2)) x.2:=by unfold PRep DRep;exact CRep.keeps hkk _ _ r2
    have st0:St D nt D.σ0 env9 (hpL (hR (((prs A B).take i).map f))) { tmps:=a.tmps,defers:=[] } W:=by
      refine⟨hDs,fun t=>?_,hDdf.symm,hs.nt⟩
      by_cases ht:t=9
      · subst ht
        show PRep _ _ _ (.d (.ptr 9 0)) (a.tmps.getD 9 undef)
        unfold PRep DRep
        exact⟨g9,n9,hD9,h9v⟩
      · have:env9 t=.any:=by
          show (bif Nat.beq t 9 then _ else _)=_
          have:Nat.beq t 9=false:=by rw[Bool.eq_false_iff];intro e;exact ht (Nat.eq_of_beq_eq_true e)
          rw[this];rfl
        rw[this];exact rep_any
    have st1:=st_put (d:=some 43) (v:=.d (.c q.1)) (u:=x.1) st0 Evo.refl st0.toSW hv1 (fun t ht=>by cases ht;exact Nat.lt_of_le_of_lt (by decide) hnt)
    have st2:=st_put (d:=some 44) (v:=.d (.c q.2)) (u:=x.2) st1 Evo.refl st1.toSW hv2 (fun t ht=>by cases ht;exact Nat.lt_of_le_of_lt (by decide) hnt)
    have st3:=st_put (d:=some 10) (v:=.d (.c q.1)) (u:=x.1) st2 Evo.refl st2.toSW hv1 (fun t ht=>by cases ht;exact Nat.lt_of_le_of_lt (by decide) hnt)
    have st4:=st_put (d:=some 11) (v:=.d (.c q.2)) (u:=x.2) st3 Evo.refl st3.toSW hv2 (fun t ht=>by cases ht;exact Nat.lt_of_le_of_lt (by decide) hnt)
    refine wpIn_mono (vcIn_out (X:=fun _ _ _ _=>False) (fk:=[9,60]) hDfk hDo hm body _ _ [9,60] (roundE (((prs A B).take (i+1)).map f)) D.σ0 _ W hok (fun _ _ _ q=>q) (hround i q hq) st4 hDn) ?_
    intro ex a' W' hq'
    cases ex with
    | normal=>
      obtain⟨e',h',n',σ2,⟨n2,wk⟩,hs2,_⟩:=hq'
      obtain⟨σ3,st5,_⟩:=st_wk hDfk hs2 wk
      obtain⟨σ4,_,sw4,_,_⟩:=fin2 σ3 W' undef st5.toSW rep_any
      rw[app_delta (by rfl)] at sw4
      obtain⟨_,sw5⟩:=sw_wk (fk:=[9]) (f:=fnL [(9,9),(60,61)]) (n:=[9,60]) (lh:=hR (((prs A B).take (i+1)).map f)) hCfk sw4 rfl rfl ⟨⟨rfl,rfl,⟨rfl,rfl,rfl,rfl,rfl⟩,rfl⟩,⟨rfl,rfl,rfl⟩,trivial⟩
      refine⟨rfl,⟨Nat.le_trans (Nat.le_of_eq hDn0.symm) hs2.size,fun k o hk hB ho=>?_⟩,newSg σ4 (fnL [(9,9),(60,61)]) [9,60],?_,fun k hk=>by unfold newSg;rw[if_neg fun e=>hk (kin_mem e)]⟩
      · have hlt:k<W.heap.size:=(Array.getElem?_eq_some_iff.1 hk).1
        have:=hs2.block k (by rw[hDn0];exact hlt) (fun he=>by obtain⟨cs,e,fr,q⟩:=hDe k he;rw[hk] at q;cases q;cases ho)
        rw[this,hDw];exact hk
      · rw[List.length_append,← hi];exact sw5
    | exit id=>obtain⟨e',h',n',σ2,hx,_⟩:=hq';exact hx.elim
    | goto l=>obtain⟨e',h',n',σ2,hx,_⟩:=hq';exact hx.elim
    | ret=>obtain⟨e',h',n',σ2,hx,_⟩:=hq';exact hx.elim
    | panic ch=>obtain⟨v,_,e',h',n',σ2,hx,_⟩:=hq';exact hx.elim
    | outgrown=>obtain⟨e',h',n',σ2,hx,_⟩:=hq';exact hx.elim
  case done=>
    rintro D W hD ⟨σ',q1,q2⟩ hK
    rw[hlen,List.take_of_length_le (Nat.le_refl _)] at q1
    obtain⟨σ4,ev,sw,_,fr⟩:=fin σ' W undef q1 rep_any
    exact hdone D W σ4 hD hK ev sw fun k hk hσ=>fr k (fun hm=>hk (by simpa [Dl.keys,deltaOf] using hm)) hσ
end
end
section
open Go.RowKit K
set_option maxRecDepth 100000
set_option maxRecDepth 100000
theorem info_v:∃(i:TypeInfo) (z:Value),Tryz.prog.info? 33=some i∧i.zero=some z∧z.cells.size=i.size∧i.size=3∧i.bytes≤64∧0<i.bytes:=by
  have h:(Tryz.prog.info? 33).map (fun i=>(i.zero.map fun z=>z.cells.size,i.size,Nat.ble i.bytes 64,Nat.ble 1 i.bytes))=some (some 3,3,true,true):=by kernel_rfl
  cases hi:Tryz.prog.info? 33 with
  | none=>rw[hi] at h;cases h
  | some i=>
    rw[hi] at h
    simp only[Option.map_some,Option.some.injEq,Prod.mk.injEq] at h
    obtain⟨h1,h2,h3,h4⟩:=h
    cases hz:i.zero with
    | none=>rw[hz] at h1;cases h1
    | some z=>
      rw[hz] at h1
      simp only[Option.map_some,Option.some.injEq] at h1
      exact⟨i,z,rfl,hz,by omega,h2,Nat.le_of_ble_eq_true h3,Nat.le_of_ble_eq_true h4⟩
theorem zeroCells_add (z:Array Value) (a b:Nat) (hz:0<z.size):Builtin.zeroCells z a++Builtin.zeroCells z b=Builtin.zeroCells z (a+b):=by
  apply Array.ext
  · simp[Builtin.zeroCells,Nat.add_mul]
  · intro j h1 h2
    simp only[Builtin.zeroCells,Array.size_append,Array.size_map,Array.size_range] at h1 h2
    by_cases h:j<a*z.size
    · rw[Array.getElem_append_left (by simpa [Builtin.zeroCells] using h)]
      simp[Builtin.zeroCells]
    · rw[Array.getElem_append_right (by simp[Builtin.zeroCells];omega)]
      simp only[Builtin.zeroCells,Array.getElem_map,Array.getElem_range,Array.size_map,Array.size_range]
      have:(j - a*z.size)%z.size=j%z.size:=by
        conv=>rhs;rw[show j=(j - a*z.size)+z.size*a by rw[Nat.mul_comm z.size a];omega]
        rw[Nat.add_mul_mod_self_left]
      rw[this]
set_option maxHeartbeats 1000000 in
theorem grow_nil (n:Nat) (h0:0<n) (hn:n≤1000) (w:World) (i:TypeInfo) (z:Value) (hi:Tryz.prog.info? 33=some i) (hz:i.zero=some z) (hzs:z.cells.size=i.size) (hs:i.size=3) (hb:i.bytes≤64) :
    Calls Tryz.prog 84 #[.slice none 0 0,.int .i64 n] w fun e w'=>
      e=.returned (.slice (some ⟨w.heap.size,0,none⟩) 0 (grownCap w n 0 33))∧w'=w.drew.alloc (.cells (#[]++Builtin.zeroCells z.cells (grownCap w n 0 33 - 0)) 33):=by
  have hnb:n*i.bytes≤64000:=Nat.le_trans (Nat.mul_le_mul hn hb) (by decide)
  have hG:=grownCap_ge w n 0 33
  have hrz:∀ty,(Builtin.append_ #[49,3] ty #[.slice none 0 0,.int .i64 (n:Int)]).run Tryz.prog w =
      .ok (.slice (some ⟨w.heap.size,0,none⟩) n (grownCap w n 0 33)) (w.drew.alloc (.cells (#[]++Builtin.zeroCells z.cells (grownCap w n 0 33 - 0)) 33)):=fun ty=>by
    have h:=Lib.run_append_grow_zeros (P:=Tryz.prog) w 49 3 ty 33 i z .i64 .i64 (by kernel_rfl) (by kernel_rfl) hi hz none 0 0 [] (run_firstCells_none w.drew i.size 0 0 0) n h0 (by omega) (by omega) (by omega) (by omega)
      (growslice_fits (by omega) (by rw[Nat.zero_add];omega))
    simp only[Nat.zero_add] at h
    rw[Array.append_assoc,zeroCells_add _ _ _ (by omega),Nat.add_sub_cancel' hG] at h
    exact h
  have hw:wrap64 (n:Int)=n:=by unfold wrap64;omega
  have hpos:(n:Int)>0:=by omega
  have hneg:¬(n:Int)<0:=by omega
  obtain⟨G,hGG⟩:∃G,G=grownCap w n 0 33:=⟨_,rfl⟩
  rw[← hGG] at hrz hG ⊢
  have hG63:G≤9223372036854775807:=by
    have:=grownCap_le_maxLen w n 0 33 (by unfold maxLen;omega)
    rw[← hGG] at this
    unfold maxLen at this
    omega
  clear hGG
  go_enter Tryz.func84,Tryz.ntmps84
  go_wp2_with (at_builtin;refine Lib.wpList_append_run _ rfl _ _ _ _ rfl _ _ rfl rfl _ _ (hrz _) ?_)
  all_goals (go_ret;exact⟨rfl,rfl⟩)
set_option maxHeartbeats 1000000 in
theorem grow_zero (w:World):Calls Tryz.prog 84 #[.slice none 0 0,.int .i64 0] w fun e w'=>e=.returned (.slice none 0 0)∧w'=w:=by
  go_enter Tryz.func84,Tryz.ntmps84
  go_wp2
  all_goals (go_ret;exact⟨rfl,rfl⟩)
theorem s_grow (n:Nat) (hn:n≤1000):CallS Tryz.prog 84 [.d (.c (.v (.slice none 0 0))),pInt .i64 n] [] [] (.d (.app NK 33 3 [])) [(NK,.tail 33 3)]:=by
  refine⟨⟨_,Tryz.func84,rfl,by kernel_rfl⟩,fun c vs hc hdf hfr hs ha=>?_⟩
  have h0:c.σ0 NK=none:=hfr NK (by simp)
  obtain⟨u1,us,rfl,p1,ha⟩:∃u us,vs=u::us∧PRep c.σ0 (fz c c.σ0 (hpL []) c.w0) c.w0 (.d (.c (.v (.slice none 0 0)))) u∧PsRep c.σ0 (fz c c.σ0 (hpL []) c.w0) c.w0 [pInt .i64 n] us:=by
    cases vs with
    | nil=>unfold PsRep at ha;exact ha.elim
    | cons u us=>unfold PsRep at ha;exact⟨u,us,rfl,ha.1,ha.2⟩
  obtain⟨u2,rfl,p2⟩:∃u,us=[u]∧PRep c.σ0 (fz c c.σ0 (hpL []) c.w0) c.w0 (pInt .i64 n) u:=by
    cases us with
    | nil=>unfold PsRep at ha;exact ha.elim
    | cons u us=>
      unfold PsRep at ha
      cases us with
      | nil=>exact⟨u,rfl,ha.1⟩
      | cons _ _=>have:=ha.2;unfold PsRep at this;exact this.elim
  obtain rfl:=rep_v p1
  obtain rfl:=rep_v p2
  have hh:∀b,upd (hpL []) NK b=fun k=>bif Nat.beq k NK then b else none:=fun b=>by
    funext k;unfold upd hpL;rfl
  have hh2:∀b,upd (hpL []) NK (some b)=hpL ([]++[(NK,b)]):=fun b=>by
    funext k
    unfold upd
    by_cases q:k=NK
    · subst q;rfl
    · have:Nat.beq k NK=false:=by rw[Bool.eq_false_iff];intro e;exact q (Nat.eq_of_beq_eq_true e)
      have h2:Nat.beq NK k=false:=by rw[Bool.eq_false_iff];intro e;exact q (Nat.eq_of_beq_eq_true e).symm
      rw[this,List.nil_append]
      unfold hpL
      first|rw[this];rfl|rw[h2];rfl
  by_cases hz:n=0
  · subst hz
    refine (grow_zero c.w0).mono ?_
    rintro e w' ⟨rfl,rfl⟩
    obtain⟨_,h1,h2⟩:=nil_tail (key:=NK) (e:=33) (sz:=3) hs h0 (by decide)
    refine⟨.slice none 0 0,upd c.σ0 NK (some (none,0)),rfl,?_,?_⟩
    · rw[← hh2];exact h1
    · rw[← hh2];exact h2
  · obtain⟨i,z,hi,hzz,hzs,h3,hb,_⟩:=info_v
    refine (grow_nil n (by omega) hn c.w0 i z hi hzz hzs h3 hb).mono ?_
    rintro e w' ⟨rfl,rfl⟩
    obtain⟨σ',_,h1,h2,_⟩:=grown_new (key:=NK) (e:=33) (cap:=grownCap c.w0 n 0 33) (l:=[]) (us:=[]) hs h0 (hzs.trans h3) (by decide) (by simp) csRep_nil rfl (Nat.zero_le _) (grownCap_le_maxLen c.w0 n 0 33 (by unfold maxLen;omega))
    refine⟨_,σ',rfl,?_,?_⟩
    · rw[← hh2];exact h1
    · rw[← hh2];exact h2
theorem sum_le_take:∀(l:List Nat) (k:Nat),(l.take k).sum≤l.sum
  | [],k=>by simp
  | a::l,0=>by simp
  | a::l,k+1=>by have:=sum_le_take l k;simp only[List.take_succ_cons,List.sum_cons];omega
theorem p_concat (ls:List RowT) (hs:(ls.map List.length).sum≤1000) (hn:ls.length≤1000):Pure Tryz.prog 61 [rwsV ls] (.d (.c (.sl 3 (ls.flatten.map ValueD.c)))):=by
  have pg:=s_grow (ls.map List.length).sum hs
  have hml:(ls.map rowC).length=ls.length:=List.length_map _
  refine pure_of Tryz.func61 (by rfl) rfl (by kernel_rfl) (by rfl) ?_
  have hsum:∀(k:Nat) (hk:k<ls.length),((ls.take (k+1)).map List.length).sum=((ls.take k).map List.length).sum+ls[k].length∧((ls.take k).map List.length).sum+ls[k].length≤1000:=fun k hk=>by
    have h1:((ls.take (k+1)).map List.length).sum=((ls.take k).map List.length).sum+ls[k].length:=by
      rw[take_snoc hk,List.map_append,List.sum_append];simp
    have h2:=sum_le_take (ls.map List.length) (k+1)
    rw[← List.map_take] at h2
    omega
  ((conv=>whnf);repeat' ((first|(with_reducible first|apply a_|apply b_|apply c_)|((with_reducible first|apply d_|apply e_|apply f_|apply g_);focus first|omega|(simp only[q_]<;>omega))|((with_reducible first|apply i_|apply h_);focus first|omega|(simp only[q_]<;>omega))|((with_reducible apply h_);focus first|decide|kernel_rfl)|refine s_ (by decide) ?_|refine t_ (by decide) ?_|with_reducible first|apply l_|apply m_|apply n_|apply o_|refine p_ (fun _=>?_) (fun _=>?_))<;>(conv=>whnf)))
  refine LoopC.mk Nat (fun k=>[(0,rwsV ls),(3,pInt .i64 ((((ls.take k).map List.length).sum:Nat):Int)),(9,rwsV ls),(10,pInt .i64 ls.length),(11,pInt .i64 (k:Int))]) (fun _=>[]) [] (fun k=>k≤ls.length) (fun k=>ls.length - k) 0 (Nat.zero_le _) ?start ?round
  case start=>exact⟨[],rfl,rfl,⟨.inl rfl,PLe.int (by simp),.inl rfl,PLe.int (by simp),.inl rfl,trivial⟩,trivial⟩
  case round=>
    intro k hk
    have hk:k≤ls.length:=hk
    by_cases q:k<ls.length
    · obtain⟨h1,h2⟩:=hsum k q
      have hm:(ls[k].map ValueD.c).length=ls[k].length:=List.length_map _
      ((conv=>whnf);repeat' ((first|(with_reducible first|apply a_|apply b_|apply c_)|((with_reducible first|apply d_|apply e_|apply f_|apply g_);focus first|omega|(simp only[q_]<;>omega))|((with_reducible first|apply i_|apply h_);focus first|omega|(simp only[q_]<;>omega))|((with_reducible apply h_);focus first|decide|kernel_rfl)|refine s_ (by decide) ?_|refine t_ (by decide) ?_|(refine Idx.mapI (f:=rowC) k rfl q ?_)|with_reducible first|apply l_|apply m_|apply n_|apply o_|refine p_ (fun _=>?_) (fun _=>?_))<;>(conv=>whnf)))
      all_goals first
        | exact⟨k+1,by show k+1≤_;omega,by show ls.length - (k+1)<ls.length - k;omega,[],rfl,rfl,⟨.inl rfl,PLe.int (by omega),.inl rfl,PLe.int (by simp),PLe.int (by omega),trivial⟩,trivial⟩
        | (exfalso;omega)
        | skip
    · have e:ls.take k=ls:=List.take_of_length_le (by omega)
      rw[e]
      ((conv=>whnf);repeat' ((first|(with_reducible first|apply a_|apply b_|apply c_)|((with_reducible first|apply d_|apply e_|apply f_|apply g_);focus first|omega|(simp only[q_]<;>omega))|((with_reducible first|apply i_|apply h_);focus first|omega|(simp only[q_]<;>omega))|((with_reducible apply h_);focus first|decide|kernel_rfl)|refine s_ (by decide) ?_|refine t_ (by decide) ?_|(refine CallP.ret [(NK,24)] _ _ _ _ _ _ _ pg rfl rfl rfl rfl trivial ?_)|with_reducible first|apply l_|apply m_|apply n_|apply o_|refine p_ (fun _=>?_) (fun _=>?_))<;>(conv=>whnf)))
      refine LoopC.mk Nat (fun k=>[(6,.d (.app 60 33 3 ((ls.take k).flatten.map ValueD.c))),(25,rwsV ls),(26,pInt .i64 ls.length),(27,pInt .i64 (k:Int))]) (fun _=>[(60,.tail 33 3)]) [60] (fun k=>k≤ls.length) (fun k=>ls.length - k) 0 (Nat.zero_le _) ?start2 ?round2
      case start2=>exact⟨[(60,24)],rfl,rfl,⟨⟨rfl,rfl,rfl,rfl,by simp⟩,.inl rfl,PLe.int (by simp),.inl rfl,trivial⟩,⟨rfl,rfl,rfl⟩,trivial⟩
      case round2=>
        intro k hk
        have hk:k≤ls.length:=hk
        by_cases q:k<ls.length
        · obtain⟨h1,h2⟩:=hsum k q
          have hf:(ls.take k).flatten.length=((ls.take k).map List.length).sum:=List.length_flatten
          ((conv=>whnf);repeat' ((first|(with_reducible first|apply a_|apply b_|apply c_)|((with_reducible first|apply d_|apply e_|apply f_|apply g_);focus first|omega|(simp only[q_]<;>omega))|((with_reducible first|apply i_|apply h_);focus first|omega|(simp only[q_]<;>omega))|((with_reducible apply h_);focus first|decide|kernel_rfl)|refine s_ (by decide) ?_|refine t_ (by decide) ?_|(refine Idx.mapI (f:=rowC) k rfl q ?_)|(refine Need.by 32 rfl (by simp only[List.length_map];omega) ?_)|with_reducible first|apply l_|apply m_|apply n_|apply o_|refine p_ (fun _=>?_) (fun _=>?_))<;>(conv=>whnf)))
          all_goals first
            | exact⟨k+1,by show k+1≤_;omega,by show ls.length - (k+1)<ls.length - k;omega,[(60,33)],rfl,rfl,⟨⟨rfl,rfl,rfl,rfl,by rw[take_snoc q,List.flatten_append,List.map_append];simp⟩,.inl rfl,PLe.int (by simp),PLe.int (by omega),trivial⟩,⟨rfl,rfl,rfl⟩,trivial⟩
            | (exfalso;omega)
            | skip
        · have e:ls.take k=ls:=List.take_of_length_le (by omega)
          rw[e]
          ((conv=>whnf);repeat' ((first|(with_reducible first|apply a_|apply b_|apply c_)|((with_reducible first|apply d_|apply e_|apply f_|apply g_);focus first|omega|(simp only[q_]<;>omega))|((with_reducible first|apply i_|apply h_);focus first|omega|(simp only[q_]<;>omega))|((with_reducible apply h_);focus first|decide|kernel_rfl)|refine s_ (by decide) ?_|refine t_ (by decide) ?_|with_reducible first|apply l_|apply m_|apply n_|apply o_|refine p_ (fun _=>?_) (fun _=>?_))<;>(conv=>whnf)))
          all_goals first|exact Ret.mk rfl | (exfalso;omega)
end
section
open Go.RowKit K
set_option maxRecDepth 100000
set_option maxRecDepth 100000
theorem p_rowscheck (l:List RowT) (hb:∀r∈l,r.length≤140737488355328):Pure Tryz.prog 20 [rwsV l] (pInt .i64 (rowsChk l)):=by
  have hml:(l.map rowC).length=l.length:=List.length_map _
  refine pure_of Tryz.func20 (by rfl) rfl (by kernel_rfl) (by rfl) ?_
  unfold rowsChk
  by_cases h40:40<l.length
  · rw[if_pos h40]
    ((conv=>whnf);repeat' ((first|(with_reducible first|apply a_|apply b_|apply c_)|((with_reducible first|apply d_|apply e_|apply f_|apply g_);focus first|omega|(simp only[q_]<;>omega))|((with_reducible first|apply i_|apply h_);focus first|omega|(simp only[q_]<;>omega))|((with_reducible apply h_);focus first|decide|kernel_rfl)|refine s_ (by decide) ?_|refine t_ (by decide) ?_|with_reducible first|apply l_|apply m_|apply n_|apply o_|refine p_ (fun _=>?_) (fun _=>?_))<;>(conv=>whnf)))
    all_goals first|exact Ret.int rfl | (exfalso;omega)
  · rw[if_neg h40]
    ((conv=>whnf);repeat' ((first|(with_reducible first|apply a_|apply b_|apply c_)|((with_reducible first|apply d_|apply e_|apply f_|apply g_);focus first|omega|(simp only[q_]<;>omega))|((with_reducible first|apply i_|apply h_);focus first|omega|(simp only[q_]<;>omega))|((with_reducible apply h_);focus first|decide|kernel_rfl)|refine s_ (by decide) ?_|refine t_ (by decide) ?_|with_reducible first|apply l_|apply m_|apply n_|apply o_|refine p_ (fun _=>?_) (fun _=>?_))<;>(conv=>whnf)))
    refine LoopC.mk Nat (fun k=>[(0,rwsV l),(3,pInt .i64 (k:Int))]) (fun _=>[]) [] (fun k=>k≤l.length∧∀r∈l.take k,r.length≤8∧r.length=widthF l∧vChkAll r=0) (fun k=>l.length - k) 0 ⟨Nat.zero_le _,by simp⟩ ?start ?round
    case start=>exact⟨[],rfl,rfl,⟨.inl rfl,PLe.int (by simp),trivial⟩,trivial⟩
    case round=>
      rintro k ⟨hk,hz⟩
      have hk:k≤l.length:=hk
      have hz:∀r∈l.take k,r.length≤8∧r.length=widthF l∧vChkAll r=0:=hz
      by_cases q:k<l.length
      · have q0:0<l.length:=by omega
        have hw:=width_get q0
        have hm:(l[k].map ValueD.c).length=l[k].length:=List.length_map _
        have hm0:(l[0].map ValueD.c).length=l[0].length:=List.length_map _
        rw[rChkW_at q hz]
        by_cases h8:8<l[k].length
        · rw[if_pos h8]
          ((conv=>whnf);repeat' ((first|(with_reducible first|apply a_|apply b_|apply c_)|((with_reducible first|apply d_|apply e_|apply f_|apply g_);focus first|omega|(simp only[q_]<;>omega))|((with_reducible first|apply i_|apply h_);focus first|omega|(simp only[q_]<;>omega))|((with_reducible apply h_);focus first|decide|kernel_rfl)|refine s_ (by decide) ?_|refine t_ (by decide) ?_|(first|refine Idx.mapI (f:=rowC) k rfl q ?_|refine Idx.mapI (f:=rowC) 0 rfl q0 ?_)|with_reducible first|apply l_|apply m_|apply n_|apply o_|refine p_ (fun _=>?_) (fun _=>?_))<;>(conv=>whnf)))
          all_goals first|exact Ret.int rfl | (exfalso;omega)
        · rw[if_neg h8]
          by_cases hwk:l[k].length≠widthF l
          · rw[if_pos hwk]
            ((conv=>whnf);repeat' ((first|(with_reducible first|apply a_|apply b_|apply c_)|((with_reducible first|apply d_|apply e_|apply f_|apply g_);focus first|omega|(simp only[q_]<;>omega))|((with_reducible first|apply i_|apply h_);focus first|omega|(simp only[q_]<;>omega))|((with_reducible apply h_);focus first|decide|kernel_rfl)|refine s_ (by decide) ?_|refine t_ (by decide) ?_|(first|refine Idx.mapI (f:=rowC) k rfl q ?_|refine Idx.mapI (f:=rowC) 0 rfl q0 ?_)|with_reducible first|apply l_|apply m_|apply n_|apply o_|refine p_ (fun _=>?_) (fun _=>?_))<;>(conv=>whnf)))
            all_goals first|exact Ret.int rfl | (exfalso;omega)
          · rw[if_neg hwk]
            have hwk:l[k].length=widthF l:=Decidable.of_not_not hwk
            have pc:=p_checkvalues l[k] (by omega)
            by_cases hv:vChkAll l[k]≠0
            · rw[if_pos hv]
              ((conv=>whnf);repeat' ((first|(with_reducible first|apply a_|apply b_|apply c_)|((with_reducible first|apply d_|apply e_|apply f_|apply g_);focus first|omega|(simp only[q_]<;>omega))|((with_reducible first|apply i_|apply h_);focus first|omega|(simp only[q_]<;>omega))|((with_reducible apply h_);focus first|decide|kernel_rfl)|refine s_ (by decide) ?_|refine t_ (by decide) ?_|(first|refine Idx.mapI (f:=rowC) k rfl q ?_|refine Idx.mapI (f:=rowC) 0 rfl q0 ?_)|refine r_ pc rfl ?_|with_reducible first|apply l_|apply m_|apply n_|apply o_|refine p_ (fun _=>?_) (fun _=>?_))<;>(conv=>whnf)))
              all_goals first|exact Ret.int rfl | (exfalso;omega)
            · have hv:vChkAll l[k]=0:=Decidable.of_not_not hv
              rw[hv,if_neg (by decide),← rChkW_skip l (k+1) (fun r hr=>by
                rw[take_snoc q,List.mem_append,List.mem_singleton] at hr
                rcases hr with hr | rfl
                · exact hz r hr
                · exact⟨by omega,hwk,hv⟩)]
              rw[hv] at pc
              ((conv=>whnf);repeat' ((first|(with_reducible first|apply a_|apply b_|apply c_)|((with_reducible first|apply d_|apply e_|apply f_|apply g_);focus first|omega|(simp only[q_]<;>omega))|((with_reducible first|apply i_|apply h_);focus first|omega|(simp only[q_]<;>omega))|((with_reducible apply h_);focus first|decide|kernel_rfl)|refine s_ (by decide) ?_|refine t_ (by decide) ?_|(first|refine Idx.mapI (f:=rowC) k rfl q ?_|refine Idx.mapI (f:=rowC) 0 rfl q0 ?_)|refine r_ pc rfl ?_|with_reducible first|apply l_|apply m_|apply n_|apply o_|refine p_ (fun _=>?_) (fun _=>?_))<;>(conv=>whnf)))
              refine⟨k+1,⟨by omega,fun r hr=>?_⟩,by omega,[],rfl,rfl,⟨.inl rfl,PLe.int (by omega),trivial⟩,trivial⟩
              rw[take_snoc q,List.mem_append,List.mem_singleton] at hr
              rcases hr with hr | rfl
              · exact hz r hr
              · exact⟨by omega,hwk,hv⟩
      · ((conv=>whnf);repeat' ((first|(with_reducible first|apply a_|apply b_|apply c_)|((with_reducible first|apply d_|apply e_|apply f_|apply g_);focus first|omega|(simp only[q_]<;>omega))|((with_reducible first|apply i_|apply h_);focus first|omega|(simp only[q_]<;>omega))|((with_reducible apply h_);focus first|decide|kernel_rfl)|refine s_ (by decide) ?_|refine t_ (by decide) ?_|with_reducible first|apply l_|apply m_|apply n_|apply o_|refine p_ (fun _=>?_) (fun _=>?_))<;>(conv=>whnf)))
        refine Ret.int ?_
        rw[rChkW_ok.2 fun x hx=>hz x (by rw[List.take_of_length_le (by omega)];exact hx)]
def rowEqB (a b:RowT):Bool:=listEqB ValueD.eqB a b
def rowsEqB (a b:List RowT):Bool:=listEqB rowEqB a b
theorem p_samerows (a b:List RowT) (hla:a.length≤140737488355328) (ha:∀r∈a,r.length≤140737488355328):Pure Tryz.prog 21 [rwsV a,rwsV b] (pBool (rowsEqB a b)):=by
  have hma:(a.map rowC).length=a.length:=List.length_map _
  have hmb:(b.map rowC).length=b.length:=List.length_map _
  refine pure_of Tryz.func21 (by rfl) rfl (by kernel_rfl) (by rfl) ?_
  by_cases hl:a.length=b.length
  · ((conv=>whnf);repeat' ((first|(with_reducible first|apply a_|apply b_|apply c_)|((with_reducible first|apply d_|apply e_|apply f_|apply g_);focus first|omega|(simp only[q_]<;>omega))|((with_reducible first|apply i_|apply h_);focus first|omega|(simp only[q_]<;>omega))|((with_reducible apply h_);focus first|decide|kernel_rfl)|refine s_ (by decide) ?_|refine t_ (by decide) ?_|with_reducible first|apply l_|apply m_|apply n_|apply o_|refine p_ (fun _=>?_) (fun _=>?_))<;>(conv=>whnf)))
    refine LoopC.mk Nat (fun k=>[(0,rwsV a),(1,rwsV b),(5,pInt .i64 k)]) (fun _=>[]) [] (fun k=>k≤a.length∧listEqB rowEqB (a.take k) (b.take k)=true) (fun k=>a.length - k) 0 ⟨Nat.zero_le _,by simp[listEqB]⟩ ?start ?round
    case start=>exact⟨[],rfl,rfl,⟨.inl rfl,.inl rfl,.inl rfl,trivial⟩,trivial⟩
    case round=>
      rintro k ⟨hk,hz⟩
      have hk:k≤a.length:=hk
      by_cases h1:k<a.length
      · have h2:k<b.length:=by omega
        have ps:=p_samerow a[k] b[k] (ha _ (List.getElem_mem h1))
        cases hx:listEqB ValueD.eqB a[k] b[k] with
        | true=>
          rw[hx] at ps
          ((conv=>whnf);repeat' ((first|(with_reducible first|apply a_|apply b_|apply c_)|((with_reducible first|apply d_|apply e_|apply f_|apply g_);focus first|omega|(simp only[q_]<;>omega))|((with_reducible first|apply i_|apply h_);focus first|omega|(simp only[q_]<;>omega))|((with_reducible apply h_);focus first|decide|kernel_rfl)|refine s_ (by decide) ?_|refine t_ (by decide) ?_|(first|refine Idx.mapI (f:=rowC) (l:=a) k rfl h1 ?_|refine Idx.mapI (f:=rowC) (l:=b) k rfl h2 ?_)|refine r_ ps rfl ?_|with_reducible first|apply l_|apply m_|apply n_|apply o_|refine p_ (fun _=>?_) (fun _=>?_))<;>(conv=>whnf)))
          exact⟨k+1,⟨by omega,(listEqB_step hz h1 h2).trans hx⟩,by omega,[],rfl,rfl,⟨.inl rfl,.inl rfl,PLe.int (by omega),trivial⟩,trivial⟩
        | false=>
          rw[hx] at ps
          ((conv=>whnf);repeat' ((first|(with_reducible first|apply a_|apply b_|apply c_)|((with_reducible first|apply d_|apply e_|apply f_|apply g_);focus first|omega|(simp only[q_]<;>omega))|((with_reducible first|apply i_|apply h_);focus first|omega|(simp only[q_]<;>omega))|((with_reducible apply h_);focus first|decide|kernel_rfl)|refine s_ (by decide) ?_|refine t_ (by decide) ?_|(first|refine Idx.mapI (f:=rowC) (l:=a) k rfl h1 ?_|refine Idx.mapI (f:=rowC) (l:=b) k rfl h2 ?_)|refine r_ ps rfl ?_|with_reducible first|apply l_|apply m_|apply n_|apply o_|refine p_ (fun _=>?_) (fun _=>?_))<;>(conv=>whnf)))
          exact Ret.bool (listEqB_stop h1 h2 hx).symm
      · ((conv=>whnf);repeat' ((first|(with_reducible first|apply a_|apply b_|apply c_)|((with_reducible first|apply d_|apply e_|apply f_|apply g_);focus first|omega|(simp only[q_]<;>omega))|((with_reducible first|apply i_|apply h_);focus first|omega|(simp only[q_]<;>omega))|((with_reducible apply h_);focus first|decide|kernel_rfl)|refine s_ (by decide) ?_|refine t_ (by decide) ?_|with_reducible first|apply l_|apply m_|apply n_|apply o_|refine p_ (fun _=>?_) (fun _=>?_))<;>(conv=>whnf)))
        exact Ret.bool (listEqB_all hz (by omega) (by omega)).symm
  · ((conv=>whnf);repeat' ((first|(with_reducible first|apply a_|apply b_|apply c_)|((with_reducible first|apply d_|apply e_|apply f_|apply g_);focus first|omega|(simp only[q_]<;>omega))|((with_reducible first|apply i_|apply h_);focus first|omega|(simp only[q_]<;>omega))|((with_reducible apply h_);focus first|decide|kernel_rfl)|refine s_ (by decide) ?_|refine t_ (by decide) ?_|with_reducible first|apply l_|apply m_|apply n_|apply o_|refine p_ (fun _=>?_) (fun _=>?_))<;>(conv=>whnf)))
    exact Ret.bool (listEqB_len hl).symm
end
section
open Go.RowKit K
set_option maxRecDepth 100000
set_option maxRecDepth 100000
def joinX (a b:List RowT):List RowT:=a.flatMap fun x=>b.map (x++·)
def joinF2 (a b:List RowT):List RowT×Int:=
  if rowsChk a≠0 then ([],rowsChk a) else if rowsChk b≠0 then ([],rowsChk b) else if 8<widthF a+widthF b∨40<a.length*b.length then ([],2) else (joinX a b,0)
end
section
open Go.RowKit K
set_option maxRecDepth 100000
set_option maxRecDepth 100000
theorem s_pairs (a b:List RowT):CallS Tryz.prog 60 [rwsV a,rwsV b] [] [] (.d (.clo 83 [] [.ptr NK 0,.ptr NK1 0])) [(NK,.box TT [.c (.sl 1 (a.map rowC))]),(NK1,.box TT [.c (.sl 1 (b.map rowC))])]:=by
  refine callS_of Tryz.func60 (by rfl) rfl (by kernel_rfl) (by rfl) [] rfl ?_
  ((conv=>whnf);repeat' ((first|(with_reducible first|apply a_|apply b_|apply c_)|((with_reducible first|apply d_|apply e_|apply f_|apply g_);focus first|omega|(simp only[q_]<;>omega))|((with_reducible first|apply i_|apply h_);focus first|omega|(simp only[q_]<;>omega))|((with_reducible apply h_);focus first|decide|kernel_rfl)|refine s_ (by decide) ?_|refine t_ (by decide) ?_|with_reducible first|apply l_|apply m_|apply n_|apply o_|refine p_ (fun _=>?_) (fun _=>?_))<;>(conv=>whnf)))
  all_goals exact RetS.mk [(NK,2),(NK1,3)] [NK,NK1] rfl rfl ⟨rfl,rfl,⟨rfl,rfl,rfl⟩,⟨rfl,rfl,rfl⟩,rfl⟩ ⟨⟨rfl,rfl,.inl rfl,rfl⟩,⟨rfl,rfl,.inl rfl,rfl⟩,trivial⟩
section
variable {P:Program}
theorem pre_out {m:Nat} {fn:Func} {fk:List Nat} {c:Ctx} {R:Ending→World→Prop} {tail:Code} {N:Env→Hp→List Nat→Prop} {Fin:Hp→List PV→Prop} (hc:c.Ok) (hm:P.follows .mixedOrders=true) (hdf:c.df=[]) (hfk:∀k,c.σ0 k≠none→k∈fk)
    (hfin:∀σ h w vs us,Fin h vs→SW c σ h w→PsRep σ (fz c σ h w) w vs us→R (.returned (if hx:us.toArray.size=1 then us.toArray[0] else .tuple us.toArray)) w)
    (htail:∀(e:Env) (h:Hp) (n:List Nat) (σ:Sg) (a:Act) (w:World),N e h n→St c fn.ntmps σ e h a w→(∀k,k∉n→σ k=none)→tail.wpIn Fence.wide m P (bodyPostM Fence.wide m P fn R) a w) :
    ∀(pre:List Code) (e:Env) (h:Hp) (n:List Nat) (σ:Sg) (a:Act) (w:World),vcPre P fn.ntmps fk (fun _ _ _ _=>False) pre N (fun x e h _=>match x with | .ret=>resP P h e fn.results.toList fun vs=>Fin h vs | _=>False) e h n→
      St c fn.ntmps σ e h a w→(∀k,k∉n→σ k=none)→(seqs pre tail).wpIn Fence.wide m P (bodyPostM Fence.wide m P fn R) a w
  | [],e,h,n,σ,a,w,hv,hs,hf=>htail e h n σ a w hv hs hf
  | cd::pre,e,h,n,σ,a,w,hv,hs,hf=>by
    refine wpIn_seq (wpIn_mono (wpIn_wide.2 (vc_out hfk hc hm cd e h n _ σ a w hv hs hf)) ?_)
    intro x a' w' hq
    cases x with
    | normal=>
      obtain⟨e',h',n',σ',hq,hs',hf'⟩:=hq
      exact pre_out hc hm hdf hfk hfin htail pre e' h' n' σ' a' w' hq hs' hf'
    | ret=>
      obtain⟨e',h',n',σ',hq,hs',hf'⟩:=hq
      obtain⟨vs,us,g1,g2,g3⟩:=results_run hs' hq
      show LeavesInM Fence.wide m P fn a'.tmps R a'.defers .returning w'
      rw[hs'.defers,hdf]
      exact⟨_,g2,hfin σ' h' w' vs us g1 hs'.toSW g3⟩
    | exit id=>obtain⟨e',h',n',σ',hq,hs',_⟩:=hq;exact hq.elim
    | goto l=>obtain⟨e',h',n',σ',hq,hs',_⟩:=hq;exact hq.elim
    | panic ch=>obtain⟨v,_,e',h',n',σ',hq,_⟩:=hq;exact hq.elim
    | outgrown=>obtain⟨e',h',n',σ',hq,hs',_⟩:=hq;exact hq.elim
end
def JAt (G:Prop) (gf:Nat) (RA RB:List (List C)) (e:Env) (h:Hp) (n:List Nat):Prop:=
  G∧e 42=.d (.clo gf [] [.ptr 70 0,.ptr 71 0])∧e 9=.d (.ptr 9 0)∧h 9=some (.box TT [nilC])∧h 70=some (.box TT [.c (.sl 1 RA)])∧h 71=some (.box TT [.c (.sl 1 RB)])∧kin 60 n=false
def jatK (G:Prop) (gf:Nat) (RA RB:List (List C)):Cont:=fun x e h n=>match x with
  | .normal=>JAt G gf RA RB e h n
  | _=>False
def postK (P:Program) (fn:Func) (rows:List (List C)):Cont:=fun x e h n=>match x with
  | .normal=>resP P h e fn.results.toList fun vs=>tupOf vs fun v=>RetS [9,60] h (.tup [.d (.app 60 TE 1 rows),pInt .i64 0]) [(60,.tail TE 1)] v
  | _=>False
section
variable {P:Program}
set_option maxHeartbeats 1000000 in
theorem callS_join {fid:FuncId} {fn:Func} {pre:List Code} {r11 body r15:Code} {bid id1 id2:Nat} {o1 o2:Oper} {args:List PV} {res:PV} {G:Prop} {gf:Nat} {A B:List C} {RA RB rows:List (List C)} {f:C×C→List C}
    (hf:P.funcs[fid]? = some fn) (hn:(fn.name== "runtime.NumGoroutine")=false)
    (hbody:fn.body=some (seqs pre (.seq (.seq r11 (.block bid (.rangeFunc (.tmp 42) #[43,44] (.seq (.region id1 #[o1] false) (.region id2 #[o2] false)) body))) (.seq r15 .ret))))
    (hres:fn.results=#[.tmp 4,.tmp 5]) (hm:P.follows .mixedOrders=true) (ha:Nat.ble args.length fn.ntmps=true) (hnt:Nat.blt 44 fn.ntmps=true) (ha1:isAssign o1 10 43) (ha2:isAssign o2 11 44) (hok:okIn body=true)
    (eg:∀args w,(callFunc gf args).run P w=.ok (.enter gf args) w) (hRA:RA=A.map fun c=>[c]) (hRB:RB=B.map fun c=>[c]) (hrows:(prs A B).map f=rows) (hr:G→res=.tup [.d (.app NK TE 1 rows),pInt .i64 0])
    (hiter:∀(k1 k2 la lb ca cb:Nat) (a b:Option Addr) (xa xb:List Value),SeqP Fence.wide 5 P gf #[.pointer (some ⟨k1,0,none⟩),.pointer (some ⟨k2,0,none⟩)] (fun x:Value×Value=>#[x.1,x.2]) (prs xa xb)
      (fun W=>Seen W (.slice a la ca) la 1 xa∧Seen W (.slice b lb cb) lb 1 xb∧W.cell? ⟨k1,0,none⟩=some (.slice a la ca)∧W.cell? ⟨k2,0,none⟩=some (.slice b lb cb)))
    (hround:G→∀(i:Nat) (p:C×C),(prs A B)[i]? = some p→vc P fn.ntmps [9,60] (fun _ _ _ _=>False) body (envX p.1 p.2) (hpL (hR (((prs A B).take i).map f))) [9,60] (roundE (((prs A B).take (i+1)).map f)))
    (hpost:G→vc P fn.ntmps [9,60] (fun _ _ _ _=>False) r15 env9 (hpL (hR rows)) [9,60] (postK P fn rows))
    (hv:vcPre P fn.ntmps [] (fun _ _ _ _=>False) pre (fun e h n=>vc P fn.ntmps [] (fun _ _ _ _=>False) r11 e h n (jatK G gf RA RB))
      (fun x e h _=>match x with | .ret=>resP P h e fn.results.toList fun vs=>tupOf vs fun v=>RetS [] h res [(NK,.tail TE 1)] v | _=>False) (argsE args) (hpL []) []) :
    CallS P fid args [] [] res [(NK,.tail TE 1)]:=by
  refine⟨⟨fn,hf,hn,by rw[hbody];rfl⟩,fun c vs hc hdf hfr hs hargs=>?_⟩
  have hst:=st_begin hs hargs (Nat.le_of_ble_eq_true ha) hdf
  have hc0:∀k,c.σ0 k=none:=fun k=>hfr k (by simp)
  have hfk:∀k,c.σ0 k≠none→k∈([]:List Nat):=fun k hk=>absurd (hc0 k) hk
  have hnt':44<fn.ntmps:=by simpa using hnt
  refine callsIn_wide.1 (callsIn_of_wp_marks (F:=Fence.wide) (n:=6) hf hbody trivial ?_ rfl)
  refine pre_out (fk:=[]) (Fin:=fun h vs=>tupOf vs fun v=>RetS [] h res [(NK,.tail TE 1)] v) hc hm hdf hfk ?fin ?tail pre _ _ [] _ _ _ hv hst (fun k _=>hc0 k)
  case fin=>
    intro σ' h' w' ps us h1 hs' h3
    obtain⟨v,h5,h6⟩:=tup_out h1 h3
    obtain⟨g,n,q1,q2,q3,q4⟩:=h5
    obtain⟨hk,hsw⟩:=sw_wk hfk hs' q1 q2 q4
    exact⟨_,_,rfl,hsw,prep_wk hk _ _ _ q3 h6⟩
  case tail=>
    intro e h n σ a w hN hs hf
    refine wpIn_seq (wpIn_seq (wpIn_mono (wpIn_wide.2 (vc_out hfk hc hm r11 e h n _ σ a w hN hs hf)) ?_))
    intro x a' w' hq
    cases x with
    | normal=>
      obtain⟨e',h',n',σ',⟨hG,j1,j2,j3,j4,j5,j6⟩,hs',hf'⟩:=hq
      refine wpIn_block ?_
      obtain⟨g9,n9,cs9,hσ9,_⟩:=hs'.hp 9 _ j3
      have h42:=hs'.env 42
      rw[j1] at h42
      unfold PRep DRep at h42
      obtain⟨us,cvs,e1,e2,e3⟩:=h42
      have e4:=dsRep_nil_inv e2
      subst e4
      obtain⟨u1,v1,rfl,p1,e5⟩:=dsRep_inv e3
      obtain⟨u2,v2,rfl,p2,e6⟩:=dsRep_inv e5
      have e7:=dsRep_nil_inv e6
      subst e7
      unfold DRep at p1 p2
      obtain⟨g1,n1,s1,rfl⟩:=p1
      obtain⟨g2,n2,s2,rfl⟩:=p2
      rw[hRA] at j4
      rw[hRB] at j5
      obtain⟨g1',n1',ca,aa,xa,s1',hA,seenA⟩:=box_seen hc hs'.toSW j4 j3 hσ9 (by decide)
      obtain⟨g2',n2',cb,ab,xb,s2',hB,seenB⟩:=box_seen hc hs'.toSW j5 j3 hσ9 (by decide)
      rw[s1] at s1';cases s1'
      rw[s2] at s2';cases s2'
      refine range_out (A:=A) (B:=B) hc hm hs' (e1:a'.eval (.tmp 42)=_) eg j2 j3 (hf' 60 fun hm=>by have:=kin_of hm;rw[j6] at this;cases this) hnt' ha1 ha2 hA hB (hiter g1 g2 A.length B.length ca cb aa ab xa xb) ?hT f hok (hround hG) ?done
      case hT=>
        intro W hle hW
        have hb:∀b,b<w'.heap.size→b≠g9→W.heap[b]? = w'.heap[b]?:=fun b h1 h2=>hW b h1 fun m q=>by rw[hσ9] at q;cases q;exact h2 rfl
        exact⟨(seenA W hle hb).1,(seenB W hle hb).1,(seenA W hle hb).2,(seenB W hle hb).2⟩
      case done=>
        intro D W σ4 hD hK ev sw fr
        rw[hrows] at ev sw
        show (Code.seq r15 .ret).wpIn Fence.wide 6 P _ _ _
        obtain⟨h4,hh4⟩:∃h4,h4=Dl.app h' (deltaOf r0 (hR rows)):=⟨_,rfl⟩
        rw[← hh4] at ev sw
        have hi1:∀p∈([]:Rf)++hR rows,h4 p.1=some p.2:=by
          intro p hp
          rw[hh4]
          rcases List.mem_cons.1 hp with rfl | hp
          · rfl
          · rw[List.mem_singleton] at hp
            subst hp;rfl
        have hra:RR [(9,9),(60,60)] (hR rows) (hR rows):=⟨_,_,_,rfl,rfl,rfl,_,_,_,rfl,rfl,rfl,rfl⟩
        have hrb:RR [(9,9),(60,60)] [(60,.tail TE 1)] [(60,.tail TE 1)]:=⟨_,_,_,rfl,rfl,rfl,rfl⟩
        have hfr3:Fresh σ4 (deltaOf (hR rows) [(60,.tail TE 1)]) ([]++hR rows):=by
          intro k hk hno
          exfalso
          have:k=9∨k=60:=by simpa [Dl.keys,deltaOf] using hk
          rcases this with rfl | rfl
          · exact hno _ (List.mem_cons_self ..) rfl
          · exact hno _ (List.mem_cons_of_mem _ (List.mem_cons_self ..)) rfl
        obtain⟨hEo,hEfr,hEk,hEs,fin3⟩:=frame_world (res0:=.tup [.d (.app 60 TE 1 rows),pInt .i64 0]) (res:=.tup [.d (.app 60 TE 1 rows),pInt .i64 0]) (rfl:namesOk [(9,9),(60,60)] [] (hR rows) [(60,.tail TE 1)]=true) (rfl:RR [(9,9),(60,60)] [] []) hra hrb rfl hc sw hi1 hfr3
        obtain⟨E,hE⟩:∃E,E=calleeC c [(9,9),(60,60)] σ4 h4 W ([]++hR rows):=⟨_,rfl⟩
        have hEw:E.w0=W:=by rw[hE];rfl
        have hEσ:E.σ0=sg0 [(9,9),(60,60)] σ4:=by rw[hE];rfl
        have hEn0:E.n0=W.heap.size:=by show E.w0.heap.size=_;rw[hEw]
        have hE9:E.σ0 9=some (some g9,n9):=by rw[hEσ];show σ4 9=_;exact ev.sg 9 _ hσ9
        have hEe:∀b,E.ext b→∃cs e fr,W.heap[b]? = some (.cells cs e fr):=by
          rintro b hb
          rw[hE] at hb
          obtain⟨_,_,k',hb',m,q1,q2⟩:=ext_own hra sw hi1 hb
          have:=sw.hp k' hb' (hi1 _ q1)
          rcases List.mem_cons.1 q1 with q | q
          · cases q
            obtain⟨g,n,cs,h1,h2,h3,h4⟩:=this
            rw[q2] at h1;cases h1
            exact⟨_,_,_,h3⟩
          · rw[List.mem_singleton] at q
            cases q
            obtain⟨_,ob,n',h1,h2⟩:=this
            rw[q2] at h1;cases h1
            obtain⟨_,cur,h3⟩:=h2
            exact⟨_,_,_,h3⟩
        rw[← hE] at hEo hEk hEs fin3
        rw[← hEσ] at hEk hEs hEfr
        have hEn:∀k,k∉[9,60]→E.σ0 k=none:=fun k hk=>hEfr k hk
        have hEfk:∀k,E.σ0 k≠none→k∈[9,60]:=fun k hk=>Classical.byContradiction fun q=>hk (hEn k q)
        obtain⟨d,hd⟩:∃d:Deferred,d={ target:=.collected D,args:=#[] }:=⟨_,rfl⟩
        rw[← hd]
        have hadf:a'.defers=[]:=hs'.defers.trans hdf
        obtain⟨E',hE'⟩:∃E':Ctx,E'={ E with df:=[d],σ0:=E.σ0 }:=⟨_,rfl⟩
        have st0:St E' fn.ntmps E.σ0 env9 (hpL (hR rows)) { a' with defers:=d::a'.defers } W:=by
          refine⟨by rw[hE'];exact sw_df hEs [d] E.σ0 (fun _ _ h=>h),fun t=>?_,by rw[hE',hadf],hs'.nt⟩
          by_cases ht:t=9
          · subst ht
            show PRep _ _ _ (.d (.ptr 9 0)) (a'.tmps.getD 9 undef)
            have:=hs'.env 9
            rw[j2] at this
            unfold PRep DRep at this ⊢
            obtain⟨g,n,q1,q2⟩:=this
            rw[hσ9] at q1;cases q1
            exact⟨g9,n9,hE9,q2⟩
          · have:env9 t=.any:=by
              show (bif Nat.beq t 9 then _ else _)=_
              have:Nat.beq t 9=false:=by rw[Bool.eq_false_iff];intro e;exact ht (Nat.eq_of_beq_eq_true e)
              rw[this];rfl
            rw[this];exact rep_any
        have hE'o:E'.Ok:=by rw[hE'];exact ctx_df hEo [d] E.σ0
        have hE'fk:∀k,E'.σ0 k≠none→k∈[9,60]:=by rw[hE'];exact hEfk
        refine wpIn_seq (wpIn_mono (wpIn_wide.2 (vc_out hE'fk hE'o hm r15 _ _ [9,60] _ E.σ0 _ W (hpost hG) st0 hEn)) ?_)
        intro x a5 w5 hq
        cases x with
        | normal=>
          obtain⟨e5,h5,n5,σ5,hq,hs5,_⟩:=hq
          refine wpIn_ret ?_
          show LeavesInM Fence.wide 6 P fn a5.tmps _ a5.defers .returning w5
          rw[hs5.defers,show E'.df=[d] by rw[hE'],hd]
          have hDlt:D<W.heap.size:=(Array.getElem?_eq_some_iff.1 hK).1
          have hsE:SW E σ5 h5 w5:=by
            have:=sw_df hs5.toSW E.df E.σ0 (fun k x hk=>hs5.sg0 k x (by rw[hE'];exact hk))
            rw[hE'] at this
            exact this
          have hK5:w5.heap[D]? = some (.deferred (some [])):=by
            have:=hsE.block D (by rw[hEn0];exact hDlt) (fun he=>by obtain⟨cs,e,fr,q⟩:=hEe D he;rw[hK] at q;cases q)
            rw[this,hEw];exact hK
          obtain⟨ps,us5,r1,r2,r3⟩:=results_run hs5 hq
          have hrun:∀W',(results fn a5.tmps).run P W'=.ok (.tuple #[a5.tmps.getD 4 undef,a5.tmps.getD 5 undef]) W':=fun W'=>by
            unfold results
            rw[hres]
            simp
          have hval:(if hx:us5.toArray.size=1 then us5.toArray[0] else .tuple us5.toArray)=.tuple #[a5.tmps.getD 4 undef,a5.tmps.getD 5 undef]:=by
            have:=hrun w5
            rw[r2] at this
            exact (Result.ok.inj this).1
          obtain⟨v,q5,q6⟩:=tup_out r1 r3
          obtain⟨gr,nr,t1,t2,t3,t4⟩:=q5
          obtain⟨hk5,hsw5⟩:=sw_wk hE'fk hs5.toSW t1 t2 t4
          have q7:=prep_wk hk5 _ _ _ t3 q6
          rw[hval] at q7
          have hsw6:SW E (newSg σ5 (fnL gr) nr) (hpL [(60,.tail TE 1)]) w5:=by
            have:=sw_df hsw5 E.df E.σ0 (fun k x hk=>hsw5.sg0 k x (by rw[hE'];exact hk))
            rw[hE'] at this
            exact this
          have q8:PRep (newSg σ5 (fnL gr) nr) (fz E (newSg σ5 (fnL gr) nr) (hpL [(60,.tail TE 1)]) w5) w5 (.tup [.d (.app 60 TE 1 rows),pInt .i64 0]) (.tuple #[a5.tmps.getD 4 undef,a5.tmps.getD 5 undef]):=by
            rw[hE'] at q7
            exact q7
          obtain⟨σ6,_,sw6,q9,_⟩:=fin3 _ w5 _ hsw6 q8
          have hDn:c.n0≤D:=Nat.le_trans hs'.size hD
          obtain⟨ev7,sw7⟩:=sw_other (o':=.deferred none) sw6 hDn hK5 rfl (fun _ _ e=>by cases e) rfl
          refine⟨by simp,.inl ⟨_,_,rfl,run_takeDeferred hK5,?_⟩⟩
          refine⟨_,hrun _,?_⟩
          obtain⟨hk8,sw8⟩:=sw_wk (fk:=[]) (f:=fnL [(NK,60)]) (n:=[NK]) (lh:=[(NK,.tail TE 1)]) hfk sw7 rfl rfl ⟨⟨rfl,rfl,rfl⟩,trivial⟩
          rw[hr hG]
          exact⟨_,_,rfl,sw8,prep_wk hk8 (.tup [.d (.app NK TE 1 rows),pInt .i64 0]) (.tup [.d (.app 60 TE 1 rows),pInt .i64 0]) _ ⟨⟨rfl,rfl,rfl,rfl,rfl⟩,.inl rfl,rfl⟩ (PRep.evo ev7 _ _ q9)⟩
        | exit id=>obtain⟨e',h',n',σ',hq,_⟩:=hq;exact hq.elim
        | goto l=>obtain⟨e',h',n',σ',hq,_⟩:=hq;exact hq.elim
        | ret=>obtain⟨e',h',n',σ',hq,_⟩:=hq;exact hq.elim
        | panic ch=>obtain⟨v,_,e',h',n',σ',hq,_⟩:=hq;exact hq.elim
        | outgrown=>obtain⟨e',h',n',σ',hq,_⟩:=hq;exact hq.elim
    | exit id=>obtain⟨e',h',n',σ',hq,_⟩:=hq;exact hq.elim
    | goto l=>obtain⟨e',h',n',σ',hq,_⟩:=hq;exact hq.elim
    | ret=>obtain⟨e',h',n',σ',hq,_⟩:=hq;exact hq.elim
    | panic ch=>obtain⟨v,_,e',h',n',σ',hq,_⟩:=hq;exact hq.elim
    | outgrown=>obtain⟨e',h',n',σ',hq,_⟩:=hq;exact hq.elim
end
def catC (p:C×C):List C:=match p with
  | (.sl _ x,.sl _ y)=>[C.sl 3 (x++y)]
  | _=>[]
def rowS (r:RowT):C:=C.sl 3 (r.map ValueD.c)
theorem prs_join (a b:List RowT):(prs (a.map rowS) (b.map rowS)).map catC=(joinX a b).map rowC:=by
  unfold prs joinX
  induction a with
  | nil=>rfl
  | cons x a ih=>
    rw[List.map_cons,List.flatMap_cons,List.flatMap_cons,List.map_append,List.map_append,ih]
    congr 1
    simp[rowC,rowS,catC]
theorem prs_map {α β:Type} (f:α→β) (a b:List α):prs (a.map f) (b.map f)=(prs a b).map fun p=>(f p.1,f p.2):=by
  unfold prs
  induction a with
  | nil=>rfl
  | cons x a ih=>rw[List.map_cons,List.flatMap_cons,List.flatMap_cons,List.map_append,ih,List.map_map,List.map_map];rfl
theorem prs_mem {α β:Type} {a:List α} {b:List β} {p:α×β} (h:p∈prs a b):p.1∈a∧p.2∈b:=by
  unfold prs at h
  simp only[List.mem_flatMap,List.mem_map] at h
  obtain⟨x,hx,y,hy,rfl⟩:=h
  exact⟨hx,hy⟩
theorem s_Join (a b:List RowT):CallS Tryz.prog 33 [rwsV a,rwsV b] [] [] (.tup [.d (.app NK TE 1 ((joinF2 a b).1.map rowC)),pInt .i64 (joinF2 a b).2]) [(NK,.tail TE 1)]:=by
  have hma:(a.map rowC).length=a.length:=List.length_map _
  have hmb:(b.map rowC).length=b.length:=List.length_map _
  have pa:=p_bagcheck a
  have pb:=p_bagcheck b
  have pp:=s_pairs a b
  obtain⟨G,hG⟩:∃G:Prop,G=(rowsChk a=0∧rowsChk b=0∧¬(8<widthF a+widthF b∨40<a.length*b.length)):=⟨_,rfl⟩
  refine callS_join (pre:=[_,_,_,_]) (G:=G) (gf:=83) (A:=a.map rowS) (B:=b.map rowS) (RA:=a.map rowC) (RB:=b.map rowC) (rows:=(joinX a b).map rowC) (f:=catC) Tryz.func33 rfl (by rfl) rfl (by rfl) rfl rfl ⟨rfl,rfl,rfl⟩ ⟨rfl,rfl,rfl⟩ rfl (enters_of Tryz.func83 (by kernel_rfl) rfl) (by rw[List.map_map];rfl) (by rw[List.map_map];rfl) (prs_join a b) ?hr (fun k1 k2 la lb ca cb a b xa xb=>pairs_any 5 k1 k2 la lb ca cb a b xa xb) ?round ?post ?pre
  case hr=>
    intro g
    rw[hG] at g
    unfold joinF2
    rw[if_neg (not_not_intro g.1),if_neg (not_not_intro g.2.1),if_neg g.2.2]
  case round=>
    intro g i p hp
    rw[hG] at g
    obtain⟨h1,h2,h3⟩:=g
    obtain⟨ha40,ha8⟩:=rowsChk_ok.1 h1
    obtain⟨hb40,hb8⟩:=rowsChk_ok.1 h2
    have hil:i<(prs (a.map rowS) (b.map rowS)).length:=(List.getElem?_eq_some_iff.1 hp).1
    have hil2:i<a.length*b.length:=by rw[prs_len,List.length_map,List.length_map] at hil;exact hil
    have hsn:((prs (a.map rowS) (b.map rowS)).take (i+1)).map catC=((prs (a.map rowS) (b.map rowS)).take i).map catC++[catC p]:=by
      rw[map_snoc _ _ hil,(List.getElem?_eq_some_iff.1 hp).2]
    rw[hsn]
    have hrl:(((prs (a.map rowS) (b.map rowS)).take i).map catC).length≤1600:=by rw[List.length_map,List.length_take];omega
    rw[prs_map,List.getElem?_map] at hp
    cases hq:(prs a b)[i]? with
    | none=>rw[hq] at hp;cases hp
    | some xy=>
      rw[hq] at hp
      obtain⟨x,y⟩:=xy
      simp only[Option.map_some,Option.some.injEq] at hp
      subst hp
      obtain⟨hx,hy⟩:=prs_mem (List.mem_of_getElem? hq)
      have hx8:x.length≤8:=(ha8 x hx).1
      have hy8:y.length≤8:=(hb8 y hy).1
      have pc:=p_concat [x,y] (by simp;omega) (by simp)
      have e1:catC (rowS x,rowS y)=[C.sl 3 ([x,y].flatten.map ValueD.c)]:=by simp[catC,rowS]
      rw[e1]
      generalize ((prs (a.map rowS) (b.map rowS)).take i).map catC=rows at hrl ⊢
      have pc:Pure Tryz.prog 61 [.d (.c (.sl 1 [[rowS x],[rowS y]]))] _:=pc
      unfold rowS at pc ⊢
      ((conv=>whnf);repeat' ((first|(with_reducible first|apply a_|apply b_|apply c_)|((with_reducible first|apply d_|apply e_|apply f_|apply g_);focus first|omega|(simp only[q_]<;>omega))|((with_reducible first|apply i_|apply h_);focus first|omega|(simp only[q_]<;>omega))|((with_reducible apply h_);focus first|decide|kernel_rfl)|refine s_ (by decide) ?_|refine t_ (by decide) ?_|refine r_ pc rfl ?_|(refine Need.by 24 rfl (by simp only[List.length_singleton];omega) ?_)|with_reducible first|apply l_|apply m_|apply n_|apply o_|refine p_ (fun _=>?_) (fun _=>?_))<;>(conv=>whnf)))
      all_goals first
        | exact⟨[9,60,61],⟨[(9,9),(60,60),(61,51)],rfl,rfl,trivial,⟨⟨rfl,rfl,⟨rfl,rfl,rfl,rfl,rfl⟩,rfl⟩,⟨rfl,rfl,rfl⟩,trivial⟩⟩⟩
        | skip
  case post=>
    intro g
    ((conv=>whnf);repeat' ((first|(with_reducible first|apply a_|apply b_|apply c_)|((with_reducible first|apply d_|apply e_|apply f_|apply g_);focus first|omega|(simp only[q_]<;>omega))|((with_reducible first|apply i_|apply h_);focus first|omega|(simp only[q_]<;>omega))|((with_reducible apply h_);focus first|decide|kernel_rfl)|refine s_ (by decide) ?_|refine t_ (by decide) ?_|with_reducible first|apply l_|apply m_|apply n_|apply o_|refine p_ (fun _=>?_) (fun _=>?_))<;>(conv=>whnf)))
    all_goals first
      | exact RetS.mk [(9,9),(60,60)] [9,60] rfl rfl ⟨⟨rfl,rfl,rfl,rfl,rfl⟩,.inl rfl,rfl⟩ ⟨⟨rfl,rfl,rfl⟩,trivial⟩
      | skip
  case pre=>
    ((conv=>whnf);repeat' ((first|(with_reducible first|apply a_|apply b_|apply c_)|((with_reducible first|apply d_|apply e_|apply f_|apply g_);focus first|omega|(simp only[q_]<;>omega))|((with_reducible first|apply i_|apply h_);focus first|omega|(simp only[q_]<;>omega))|((with_reducible apply h_);focus first|decide|kernel_rfl)|refine s_ (by decide) ?_|refine t_ (by decide) ?_|with_reducible first|apply l_|apply m_|apply n_|apply o_|refine p_ (fun _=>?_) (fun _=>?_))<;>(conv=>whnf)))
    refine LoopC.mk Nat (fun k=>[(0,rwsV a),(1,rwsV b),(14,.d (.c (.sl 1 [[.sl 1 (a.map rowC)],[.sl 1 (b.map rowC)]]))),(15,pInt .i64 2),(16,pInt .i64 (k:Int))]) (fun _=>[]) [] (fun k=>k=0∨(k=1∧rowsChk a=0)∨(k=2∧rowsChk a=0∧rowsChk b=0)) (fun k=>2 - k) 0 (.inl rfl) ?start ?round
    case start=>exact⟨[],rfl,rfl,⟨.inl rfl,.inl rfl,rfl,PLe.int (by simp),.inl rfl,trivial⟩,trivial⟩
    case round=>
      rintro k (rfl | ⟨rfl,h1⟩ | ⟨rfl,h1,h2⟩)
      · by_cases h1:rowsChk a=0
        · rw[h1] at pa
          ((conv=>whnf);repeat' ((first|(with_reducible first|apply a_|apply b_|apply c_)|((with_reducible first|apply d_|apply e_|apply f_|apply g_);focus first|omega|(simp only[q_]<;>omega))|((with_reducible first|apply i_|apply h_);focus first|omega|(simp only[q_]<;>omega))|((with_reducible apply h_);focus first|decide|kernel_rfl)|refine s_ (by decide) ?_|refine t_ (by decide) ?_|(refine Idx.mk [.sl 1 (a.map rowC)] (by decide) rfl ?_)|refine r_ pa rfl ?_|with_reducible first|apply l_|apply m_|apply n_|apply o_|refine p_ (fun _=>?_) (fun _=>?_))<;>(conv=>whnf)))
          all_goals first
            | exact⟨1,.inr (.inl ⟨rfl,h1⟩),by decide,[],rfl,rfl,⟨.inl rfl,.inl rfl,.inl rfl,.inl rfl,PLe.int (by decide),trivial⟩,trivial⟩
            | (exfalso;omega)
            | skip
        · have hj:joinF2 a b=([],rowsChk a):=by unfold joinF2;rw[if_pos h1]
          rw[hj]
          ((conv=>whnf);repeat' ((first|(with_reducible first|apply a_|apply b_|apply c_)|((with_reducible first|apply d_|apply e_|apply f_|apply g_);focus first|omega|(simp only[q_]<;>omega))|((with_reducible first|apply i_|apply h_);focus first|omega|(simp only[q_]<;>omega))|((with_reducible apply h_);focus first|decide|kernel_rfl)|refine s_ (by decide) ?_|refine t_ (by decide) ?_|(refine Idx.mk [.sl 1 (a.map rowC)] (by decide) rfl ?_)|refine r_ pa rfl ?_|with_reducible first|apply l_|apply m_|apply n_|apply o_|refine p_ (fun _=>?_) (fun _=>?_))<;>(conv=>whnf)))
          all_goals first
            | exact RetS.mk [] [NK] rfl rfl ⟨⟨rfl,rfl,Nat.zero_lt_succ _,rfl,rfl⟩,.inl rfl,rfl⟩ ⟨⟨rfl,Nat.zero_lt_succ _⟩,trivial⟩
            | (exfalso;omega)
            | skip
      · by_cases h2:rowsChk b=0
        · rw[h2] at pb
          ((conv=>whnf);repeat' ((first|(with_reducible first|apply a_|apply b_|apply c_)|((with_reducible first|apply d_|apply e_|apply f_|apply g_);focus first|omega|(simp only[q_]<;>omega))|((with_reducible first|apply i_|apply h_);focus first|omega|(simp only[q_]<;>omega))|((with_reducible apply h_);focus first|decide|kernel_rfl)|refine s_ (by decide) ?_|refine t_ (by decide) ?_|(refine Idx.mk [.sl 1 (b.map rowC)] (by decide) rfl ?_)|refine r_ pb rfl ?_|with_reducible first|apply l_|apply m_|apply n_|apply o_|refine p_ (fun _=>?_) (fun _=>?_))<;>(conv=>whnf)))
          all_goals first
            | exact⟨2,.inr (.inr ⟨rfl,h1,h2⟩),by decide,[],rfl,rfl,⟨.inl rfl,.inl rfl,.inl rfl,.inl rfl,PLe.int (by decide),trivial⟩,trivial⟩
            | (exfalso;omega)
            | skip
        · have hj:joinF2 a b=([],rowsChk b):=by unfold joinF2;rw[if_neg (not_not_intro h1),if_pos h2]
          rw[hj]
          ((conv=>whnf);repeat' ((first|(with_reducible first|apply a_|apply b_|apply c_)|((with_reducible first|apply d_|apply e_|apply f_|apply g_);focus first|omega|(simp only[q_]<;>omega))|((with_reducible first|apply i_|apply h_);focus first|omega|(simp only[q_]<;>omega))|((with_reducible apply h_);focus first|decide|kernel_rfl)|refine s_ (by decide) ?_|refine t_ (by decide) ?_|(refine Idx.mk [.sl 1 (b.map rowC)] (by decide) rfl ?_)|refine r_ pb rfl ?_|with_reducible first|apply l_|apply m_|apply n_|apply o_|refine p_ (fun _=>?_) (fun _=>?_))<;>(conv=>whnf)))
          all_goals first
            | exact RetS.mk [] [NK] rfl rfl ⟨⟨rfl,rfl,Nat.zero_lt_succ _,rfl,rfl⟩,.inl rfl,rfl⟩ ⟨⟨rfl,Nat.zero_lt_succ _⟩,trivial⟩
            | (exfalso;omega)
            | skip
      · obtain⟨ha40,ha8⟩:=rowsChk_ok.1 h1
        obtain⟨hb40,hb8⟩:=rowsChk_ok.1 h2
        have hmul:a.length*b.length≤40*40:=Nat.mul_le_mul ha40 hb40
        have hmi:((a.length*b.length:Nat):Int)=(a.length:Int)*(b.length:Int):=Int.natCast_mul _ _
        have wa:=p_width a (fun r hr=>by have:=(ha8 r hr).1;omega)
        have wb:=p_width b (fun r hr=>by have:=(hb8 r hr).1;omega)
        have hwa:widthF a≤8:=by
          unfold widthF
          cases a with
          | nil=>exact Nat.zero_le _
          | cons r a=>exact (ha8 r List.mem_cons_self).1
        have hwb:widthF b≤8:=by
          unfold widthF
          cases b with
          | nil=>exact Nat.zero_le _
          | cons r b=>exact (hb8 r List.mem_cons_self).1
        by_cases h3:8<widthF a+widthF b∨40<a.length*b.length
        · have hj:joinF2 a b=([],2):=by unfold joinF2;rw[if_neg (not_not_intro h1),if_neg (not_not_intro h2),if_pos h3]
          rw[hj]
          ((conv=>whnf);repeat' ((first|(with_reducible first|apply a_|apply b_|apply c_)|((with_reducible first|apply d_|apply e_|apply f_|apply g_);focus first|omega|(simp only[q_]<;>omega))|((with_reducible first|apply i_|apply h_);focus first|omega|(simp only[q_]<;>omega))|((with_reducible apply h_);focus first|decide|kernel_rfl)|refine s_ (by decide) ?_|refine t_ (by decide) ?_|refine r_ wa rfl ?_|refine r_ wb rfl ?_|with_reducible first|apply l_|apply m_|apply n_|apply o_|refine p_ (fun _=>?_) (fun _=>?_))<;>(conv=>whnf)))
          all_goals first
            | exact RetS.mk [] [NK] rfl rfl ⟨⟨rfl,rfl,Nat.zero_lt_succ _,rfl,rfl⟩,.inl rfl,rfl⟩ ⟨⟨rfl,Nat.zero_lt_succ _⟩,trivial⟩
            | (exfalso;omega)
            | skip
        · ((conv=>whnf);repeat' ((first|(with_reducible first|apply a_|apply b_|apply c_)|((with_reducible first|apply d_|apply e_|apply f_|apply g_);focus first|omega|(simp only[q_]<;>omega))|((with_reducible first|apply i_|apply h_);focus first|omega|(simp only[q_]<;>omega))|((with_reducible apply h_);focus first|decide|kernel_rfl)|refine s_ (by decide) ?_|refine t_ (by decide) ?_|refine r_ wa rfl ?_|refine r_ wb rfl ?_|(refine CallP.ret [(NK,70),(NK1,71)] _ _ _ _ _ _ _ pp rfl rfl rfl rfl trivial ?_)|with_reducible first|apply l_|apply m_|apply n_|apply o_|refine p_ (fun _=>?_) (fun _=>?_))<;>(conv=>whnf)))
          all_goals first
            | (exfalso;omega)
            | refine⟨by rw[hG];exact⟨h1,h2,h3⟩,?_,?_,?_,?_,?_,?_⟩
          · rfl
          · rfl
          · rfl
          · rfl
          · rfl
          · rfl
end
section
open Go.RowKit K
set_option maxRecDepth 100000
set_option maxRecDepth 100000
def limF (l:List RowT) (skip most:Int):List RowT×Int:=
  if rowsChk l≠0 then ([],rowsChk l) else if skip<0∨most<0 then ([],3) else ((l.drop skip.toNat).take most.toNat,0)
theorem lim_rows (M:List (List C)) (skip most:Int) (hs:0≤skip) (hm:0≤most):List.take ((if ((List.take ((M.length:Int).toNat - (if (M.length:Int)<skip then (M.length:Int) else skip).toNat) (List.drop (if (M.length:Int)<skip then (M.length:Int) else skip).toNat M)).length:Int)<most then ((List.take ((M.length:Int).toNat - (if (M.length:Int)<skip then (M.length:Int) else skip).toNat) (List.drop (if (M.length:Int)<skip then (M.length:Int) else skip).toNat M)).length:Int) else most).toNat - (0:Int).toNat) (List.drop (0:Int).toNat (List.take ((M.length:Int).toNat - (if (M.length:Int)<skip then (M.length:Int) else skip).toNat) (List.drop (if (M.length:Int)<skip then (M.length:Int) else skip).toNat M)))=(M.drop skip.toNat).take most.toNat:=by
  have e1:List.take ((M.length:Int).toNat - (if (M.length:Int)<skip then (M.length:Int) else skip).toNat) (List.drop (if (M.length:Int)<skip then (M.length:Int) else skip).toNat M)=M.drop skip.toNat:=by
    split
    · rw[List.drop_of_length_le (by omega),List.drop_of_length_le (by omega)];simp
    · exact List.take_of_length_le (by rw[List.length_drop];omega)
  rw[e1,show (0:Int).toNat=0 from rfl,List.drop_zero,Nat.sub_zero]
  split
  · rw[List.take_of_length_le (by omega),List.take_of_length_le (by omega)]
  · rfl
theorem p_Limit (l:List RowT) (skip most:Int):Pure Tryz.prog 30 [rwsV l,pInt .i64 skip,pInt .i64 most] (.tup [rwsV (limF l skip most).1,pInt .i64 (limF l skip most).2]):=by
  have pc:=p_bagcheck l
  have hml:(l.map rowC).length=l.length:=List.length_map _
  refine pure_of Tryz.func30 (by rfl) rfl (by kernel_rfl) (by rfl) ?_
  unfold limF
  by_cases h1:rowsChk l=0
  · rw[if_neg (not_not_intro h1)]
    rw[h1] at pc
    obtain⟨h40,h8⟩:=rowsChk_ok.1 h1
    by_cases h2:skip<0∨most<0
    · rw[if_pos h2]
      ((conv=>whnf);repeat' ((first|(with_reducible first|apply a_|apply b_|apply c_)|((with_reducible first|apply d_|apply e_|apply f_|apply g_);focus first|omega|(simp only[q_]<;>omega))|((with_reducible first|apply i_|apply h_);focus first|omega|(simp only[q_]<;>omega))|((with_reducible apply h_);focus first|decide|kernel_rfl)|refine s_ (by decide) ?_|refine t_ (by decide) ?_|refine r_ pc rfl ?_|with_reducible first|apply l_|apply m_|apply n_|apply o_|refine p_ (fun _=>?_) (fun _=>?_))<;>(conv=>whnf)))
      all_goals first|exact Ret.le ⟨.inr ⟨⟨1,rfl⟩,.inl rfl⟩,.inl rfl,rfl⟩ | (exfalso;omega)
    · rw[if_neg h2]
      have hs:0≤skip:=by omega
      have hm:0≤most:=by omega
      have po:=p_own_rows ((l.drop skip.toNat).take most.toNat) (by rw[List.length_take,List.length_drop];omega) (fun r hr=>by have:=(h8 r (List.mem_of_mem_drop (List.mem_of_mem_take hr))).1;omega)
      have po:=(show Pure Tryz.prog 58 [.d (.c (.sl 1 (((l.drop skip.toNat).take most.toNat).map rowC)))] _ from po)
      rw[List.map_take,List.map_drop,← lim_rows (l.map rowC) skip most hs hm] at po
      ((conv=>whnf);repeat' ((first|(with_reducible first|apply a_|apply b_|apply c_)|((with_reducible first|apply d_|apply e_|apply f_|apply g_);focus first|omega|(simp only[q_]<;>omega))|((with_reducible first|apply i_|apply h_);focus first|omega|(simp only[q_]<;>omega))|((with_reducible apply h_);focus first|decide|kernel_rfl)|refine s_ (by decide) ?_|refine t_ (by decide) ?_|refine r_ pc rfl ?_|refine r_ po rfl ?_|with_reducible first|apply l_|apply m_|apply n_|apply o_|refine p_ (fun _=>?_) (fun _=>?_))<;>(conv=>whnf)))
      all_goals first|exact Ret.eq rfl | (exfalso;omega) | skip
  · rw[if_pos h1]
    ((conv=>whnf);repeat' ((first|(with_reducible first|apply a_|apply b_|apply c_)|((with_reducible first|apply d_|apply e_|apply f_|apply g_);focus first|omega|(simp only[q_]<;>omega))|((with_reducible first|apply i_|apply h_);focus first|omega|(simp only[q_]<;>omega))|((with_reducible apply h_);focus first|decide|kernel_rfl)|refine s_ (by decide) ?_|refine t_ (by decide) ?_|refine r_ pc rfl ?_|with_reducible first|apply l_|apply m_|apply n_|apply o_|refine p_ (fun _=>?_) (fun _=>?_))<;>(conv=>whnf)))
    all_goals first|exact Ret.le ⟨.inr ⟨⟨1,rfl⟩,.inl rfl⟩,.inl rfl,rfl⟩ | (exfalso;omega)
end
section
open Go.RowKit K
set_option maxRecDepth 100000
abbrev vO (x:ValueD):ValP.ValD:=(x.Kind,x.N,tx x.S)
def vOrd (x y:ValueD):Int:=ValP.order (vO x) (vO y)
theorem vVv (x:ValueD) {F:Fzn} {w:World} {u:Value} (h:PRep (fun _=>none) F w (vV x) u):u=.agg #[.int .i64 x.Kind,.int .i64 x.N,.string (tx x.S)]:=by
  unfold PRep at h
  obtain⟨xs,rfl,h⟩:=h
  obtain⟨u1,r1,rfl,h1,h⟩:=dsRep_inv (show DsRep _ _ _ [D.c (C.v (.int .i64 x.Kind)),D.c (C.v (.int .i64 x.N)),D.c (C.v (.string (tx x.S)))] xs from h)
  obtain⟨u2,r2,rfl,h2,h⟩:=dsRep_inv h
  obtain⟨u3,r3,rfl,h3,h⟩:=dsRep_inv h
  rw[dsRep_nil_inv h]
  unfold DRep CRep at h1 h2 h3
  rw[h1.1,h2.1,h3.1]
theorem pure_two {P:Program} {f:FuncId} {x y:ValueD} {res:PV} (hf:fnOk P f)
    (h:∀w:World,GL w→Calls P f #[.agg #[.int .i64 x.Kind,.int .i64 x.N,.string (tx x.S)],.agg #[.int .i64 y.Kind,.int .i64 y.N,.string (tx y.S)]] w fun e w'=>∃v,e=.returned v∧Below w.heap.size w w'∧∀F:Fzn,PRep (fun _=>none) F w' res v) :
    Pure P f [vV x,vV y] res:=by
  refine⟨hf,fun F w us hG hF hus=>?_⟩
  match us,hus with
  | [u,v],hus=>
    unfold PsRep at hus
    obtain⟨h1,hus⟩:=hus
    unfold PsRep at hus
    rw[vVv x h1,vVv y hus.1]
    refine (h w hG).mono ?_
    rintro e w' ⟨z,rfl,hb,hr⟩
    exact⟨z,rfl,hb,hr _⟩
  | [],hus=>unfold PsRep at hus;exact hus.elim
  | [_],hus=>unfold PsRep PsRep at hus;exact hus.2.elim
  | _::_::_::_,hus=>unfold PsRep PsRep PsRep at hus;exact hus.2.2.elim
theorem p_vorder (x y:ValueD):Pure Tryz.prog 91 [vV x,vV y] (pInt .i64 (vOrd x y)):=by
  refine pure_two ⟨_,Tryz.func91,by rfl,by rfl⟩ fun w hG=>?_
  refine (ValP.order_any x.Kind x.N (tx x.S) y.Kind y.N (tx y.S) w).mono ?_
  rintro e w' ⟨rfl,hb⟩
  exact⟨_,rfl,hb,fun F=>rep_int _ _⟩
theorem p_vless (x y:ValueD) (hx:okText x.S) (hy:okText y.S):Pure Tryz.prog 187 [vV x,vV y] (pBool (decide (vOrd x y<0))):=by
  refine pure_two ⟨_,Tryz.func187,by rfl,by rfl⟩ fun w hG=>?_
  refine (ValP.valueless_any x.Kind x.N (tx x.S) y.Kind y.N (tx y.S) w hx hy).mono ?_
  rintro e w' ⟨rfl,hb⟩
  exact⟨_,rfl,hb,fun F=>rep_bool _⟩
theorem vOrd_zero (x y:ValueD):vOrd x y=0↔x=y:=by
  unfold vOrd
  rw[ValP.order_zero]
  cases x;cases y
  simp[tx_eq]
theorem vOrd_cases (x y:ValueD):vOrd x y=-1∨vOrd x y=0∨vOrd x y=1:=by
  have h1:=ValP.cmpI_cases x.Kind y.Kind
  have h2:=ValP.cmpI_cases x.N y.N
  have h3:=ValP.compareBytes_cases x.S y.S
  unfold vOrd
  rw[ValP.order_eq]
  have e3:ValP.cmpS (tx x.S) (tx y.S)=Lib.compareBytes x.S y.S:=rfl
  simp only[e3]
  (repeat' split)<;>simp_all
end
section
open Go.RowKit K
set_option maxRecDepth 100000
set_option maxRecDepth 100000
structure KeyD where
  Col:Int
  Desc:Bool
def KeyD.c (x:KeyD):List C:=[.v (.int .i64 x.Col),.v (.bool x.Desc)]
def KeyD.ok (x:KeyD):Prop:=okInt x.Col∧okAny x.Desc
def KeyD.eqB (x y:KeyD):Bool:=(decide (x.Col=y.Col)&&((x.Desc==y.Desc)&&true))
theorem KeyD.eqB_iff (x y:KeyD):KeyD.eqB x y=true↔x=y:=by
  cases x;cases y
  simp[KeyD.eqB,tx_eq]
def ordK:List KeyD→RowT→RowT→Int
  | [],_,_=>0
  | k::ks,a,b=>if vOrd (a.getD k.Col.toNat noV) (b.getD k.Col.toNat noV)≠0 then (if k.Desc then -(vOrd (a.getD k.Col.toNat noV) (b.getD k.Col.toNat noV)) else vOrd (a.getD k.Col.toNat noV) (b.getD k.Col.toNat noV)) else ordK ks a b
theorem vOrd_in (a b:ValueD):-1≤vOrd a b∧vOrd a b≤1:=by
  rcases vOrd_cases a b with h | h | h<;>rw[h]<;>decide
theorem p_order (keys:List KeyD) (hk:keys.length≤1000) (a b:RowT) (hc:∀k∈keys,0≤k.Col∧k.Col<a.length∧k.Col<b.length):Pure Tryz.prog 71 [slV 2 KeyD.c keys,slV 3 ValueD.c a,slV 3 ValueD.c b] (pInt .i64 (ordK keys a b)):=by
  refine pure_of Tryz.func71 (by rfl) rfl (by kernel_rfl) (by rfl) ?_
  ((conv=>whnf);repeat' ((first|(with_reducible first|apply a_|apply b_|apply c_)|((with_reducible first|apply d_|apply e_|apply f_|apply g_);focus first|omega|(simp only[q_]<;>omega))|((with_reducible first|apply i_|apply h_);focus first|omega|(simp only[q_]<;>omega))|((with_reducible apply h_);focus first|decide|kernel_rfl)|refine s_ (by decide) ?_|refine t_ (by decide) ?_|with_reducible first|apply l_|apply m_|apply n_|apply o_|refine p_ (fun _=>?_) (fun _=>?_))<;>(conv=>whnf)))
  refine LoopC.mk Nat (fun k=>[(1,slV 3 ValueD.c a),(2,slV 3 ValueD.c b),(10,slV 2 KeyD.c keys),(11,pInt .i64 keys.length),(12,pInt .i64 (k:Int))]) (fun _=>[]) [] (fun k=>k≤keys.length∧ordK keys a b=ordK (keys.drop k) a b) (fun k=>keys.length - k) 0 ⟨Nat.zero_le _,by rw[List.drop_zero]⟩ ?start ?round
  case start=>exact⟨[],rfl,rfl,⟨.inl rfl,.inl rfl,.inl rfl,PLe.int (by simp),.inl rfl,trivial⟩,trivial⟩
  case round=>
    rintro k ⟨hk,hz⟩
    have hk:k≤keys.length:=hk
    have hz:ordK keys a b=ordK (keys.drop k) a b:=hz
    by_cases q:k<keys.length
    · rw[List.drop_eq_getElem_cons q,ordK] at hz
      obtain⟨c1,c2,c3⟩:=hc _ (List.getElem_mem q)
      have ca:keys[k].Col.toNat<a.length:=by omega
      have cb:keys[k].Col.toNat<b.length:=by omega
      have cc:keys[k].Col=(keys[k].Col.toNat:Int):=by omega
      rw[List.getD_eq_getElem?_getD,List.getD_eq_getElem?_getD,List.getElem?_eq_getElem ca,List.getElem?_eq_getElem cb,Option.getD_some,Option.getD_some] at hz
      have pv:=p_vorder a[keys[k].Col.toNat] b[keys[k].Col.toNat]
      have hv:=vOrd_in a[keys[k].Col.toNat] b[keys[k].Col.toNat]
      generalize hn:vOrd a[keys[k].Col.toNat] b[keys[k].Col.toNat]=n at *
      cases hd:keys[k].Desc with
      | true=>
        rw[hd] at hz
        have hz:ordK keys a b=if n≠0 then -n else ordK (keys.drop (k+1)) a b:=hz
        by_cases h0:n=0
        · subst h0
          rw[if_neg (not_not_intro rfl)] at hz
          ((conv=>whnf);repeat' ((first|(with_reducible first|apply a_|apply b_|apply c_)|((with_reducible first|apply d_|apply e_|apply f_|apply g_);focus first|omega|(simp only[q_]<;>omega))|((with_reducible first|apply i_|apply h_);focus first|omega|(simp only[q_]<;>omega))|((with_reducible apply h_);focus first|decide|kernel_rfl)|refine s_ (by decide) ?_|refine t_ (by decide) ?_|(first|refine Idx.mapI (f:=KeyD.c) k rfl q ?_|refine Idx.mapI (f:=ValueD.c) keys[k].Col.toNat cc ca ?_|refine Idx.mapI (f:=ValueD.c) keys[k].Col.toNat cc cb ?_)|refine r_ pv rfl ?_|(refine BCase.t hd ?_)|with_reducible first|apply l_|apply m_|apply n_|apply o_|refine p_ (fun _=>?_) (fun _=>?_))<;>(conv=>whnf)))
          all_goals first
            | (exfalso;omega)
            | exact⟨k+1,⟨by show k+1≤_;omega,hz⟩,by show keys.length - (k+1)<keys.length - k;omega,[],rfl,rfl,⟨.inl rfl,.inl rfl,.inl rfl,PLe.int (by simp),PLe.int (by omega),trivial⟩,trivial⟩
        · rw[hz,if_pos h0]
          ((conv=>whnf);repeat' ((first|(with_reducible first|apply a_|apply b_|apply c_)|((with_reducible first|apply d_|apply e_|apply f_|apply g_);focus first|omega|(simp only[q_]<;>omega))|((with_reducible first|apply i_|apply h_);focus first|omega|(simp only[q_]<;>omega))|((with_reducible apply h_);focus first|decide|kernel_rfl)|refine s_ (by decide) ?_|refine t_ (by decide) ?_|(first|refine Idx.mapI (f:=KeyD.c) k rfl q ?_|refine Idx.mapI (f:=ValueD.c) keys[k].Col.toNat cc ca ?_|refine Idx.mapI (f:=ValueD.c) keys[k].Col.toNat cc cb ?_)|refine r_ pv rfl ?_|(refine BCase.t hd ?_)|with_reducible first|apply l_|apply m_|apply n_|apply o_|refine p_ (fun _=>?_) (fun _=>?_))<;>(conv=>whnf)))
          all_goals first|exact Ret.int rfl|exact Ret.int (by simp) | (exfalso;omega)
      | false=>
        rw[hd] at hz
        have hz:ordK keys a b=if n≠0 then n else ordK (keys.drop (k+1)) a b:=hz
        by_cases h0:n=0
        · subst h0
          rw[if_neg (not_not_intro rfl)] at hz
          ((conv=>whnf);repeat' ((first|(with_reducible first|apply a_|apply b_|apply c_)|((with_reducible first|apply d_|apply e_|apply f_|apply g_);focus first|omega|(simp only[q_]<;>omega))|((with_reducible first|apply i_|apply h_);focus first|omega|(simp only[q_]<;>omega))|((with_reducible apply h_);focus first|decide|kernel_rfl)|refine s_ (by decide) ?_|refine t_ (by decide) ?_|(first|refine Idx.mapI (f:=KeyD.c) k rfl q ?_|refine Idx.mapI (f:=ValueD.c) keys[k].Col.toNat cc ca ?_|refine Idx.mapI (f:=ValueD.c) keys[k].Col.toNat cc cb ?_)|refine r_ pv rfl ?_|(refine BCase.f hd ?_)|with_reducible first|apply l_|apply m_|apply n_|apply o_|refine p_ (fun _=>?_) (fun _=>?_))<;>(conv=>whnf)))
          all_goals first
            | (exfalso;omega)
            | exact⟨k+1,⟨by show k+1≤_;omega,hz⟩,by show keys.length - (k+1)<keys.length - k;omega,[],rfl,rfl,⟨.inl rfl,.inl rfl,.inl rfl,PLe.int (by simp),PLe.int (by omega),trivial⟩,trivial⟩
        · rw[hz,if_pos h0]
          ((conv=>whnf);repeat' ((first|(with_reducible first|apply a_|apply b_|apply c_)|((with_reducible first|apply d_|apply e_|apply f_|apply g_);focus first|omega|(simp only[q_]<;>omega))|((with_reducible first|apply i_|apply h_);focus first|omega|(simp only[q_]<;>omega))|((with_reducible apply h_);focus first|decide|kernel_rfl)|refine s_ (by decide) ?_|refine t_ (by decide) ?_|(first|refine Idx.mapI (f:=KeyD.c) k rfl q ?_|refine Idx.mapI (f:=ValueD.c) keys[k].Col.toNat cc ca ?_|refine Idx.mapI (f:=ValueD.c) keys[k].Col.toNat cc cb ?_)|refine r_ pv rfl ?_|(refine BCase.f hd ?_)|with_reducible first|apply l_|apply m_|apply n_|apply o_|refine p_ (fun _=>?_) (fun _=>?_))<;>(conv=>whnf)))
          all_goals first|exact Ret.int rfl|exact Ret.int (by simp) | (exfalso;omega)
    · have e:keys.drop k=[]:=List.drop_of_length_le (by omega)
      rw[e] at hz
      rw[hz]
      ((conv=>whnf);repeat' ((first|(with_reducible first|apply a_|apply b_|apply c_)|((with_reducible first|apply d_|apply e_|apply f_|apply g_);focus first|omega|(simp only[q_]<;>omega))|((with_reducible first|apply i_|apply h_);focus first|omega|(simp only[q_]<;>omega))|((with_reducible apply h_);focus first|decide|kernel_rfl)|refine s_ (by decide) ?_|refine t_ (by decide) ?_|with_reducible first|apply l_|apply m_|apply n_|apply o_|refine p_ (fun _=>?_) (fun _=>?_))<;>(conv=>whnf)))
      all_goals first|exact Ret.mk rfl | (exfalso;omega)
def placesF (l:List RowT):List Int→Int
  | []=>0
  | c::cs=>if 0<l.length∧(c<0∨(widthF l:Int)≤c) then 3 else placesF l cs
def iC (c:Int):List C:=[.v (.int .i64 c)]
theorem p_places (l:List RowT) (hr:∀r∈l,r.length≤140737488355328) (at_:List Int) (ha:at_.length≤1000):Pure Tryz.prog 69 [rwsV l,slV 1 iC at_] (pInt .i64 (placesF l at_)):=by
  have pw:=p_width l hr
  have hml:(l.map rowC).length=l.length:=List.length_map _
  refine pure_of Tryz.func69 (by rfl) rfl (by kernel_rfl) (by rfl) ?_
  ((conv=>whnf);repeat' ((first|(with_reducible first|apply a_|apply b_|apply c_)|((with_reducible first|apply d_|apply e_|apply f_|apply g_);focus first|omega|(simp only[q_]<;>omega))|((with_reducible first|apply i_|apply h_);focus first|omega|(simp only[q_]<;>omega))|((with_reducible apply h_);focus first|decide|kernel_rfl)|refine s_ (by decide) ?_|refine t_ (by decide) ?_|with_reducible first|apply l_|apply m_|apply n_|apply o_|refine p_ (fun _=>?_) (fun _=>?_))<;>(conv=>whnf)))
  refine LoopC.mk Nat (fun k=>[(0,rwsV l),(7,slV 1 iC at_),(8,pInt .i64 at_.length),(9,pInt .i64 (k:Int))]) (fun _=>[]) [] (fun k=>k≤at_.length∧placesF l at_=placesF l (at_.drop k)) (fun k=>at_.length - k) 0 ⟨Nat.zero_le _,by rw[List.drop_zero]⟩ ?start ?round
  case start=>exact⟨[],rfl,rfl,⟨.inl rfl,.inl rfl,PLe.int (by simp),.inl rfl,trivial⟩,trivial⟩
  case round=>
    rintro k ⟨hk,hz⟩
    have hk:k≤at_.length:=hk
    have hz:placesF l at_=placesF l (at_.drop k):=hz
    by_cases q:k<at_.length
    · rw[List.drop_eq_getElem_cons q,placesF] at hz
      by_cases h:0<l.length∧(at_[k]<0∨(widthF l:Int)≤at_[k])
      · rw[if_pos h] at hz
        rw[hz]
        ((conv=>whnf);repeat' ((first|(with_reducible first|apply a_|apply b_|apply c_)|((with_reducible first|apply d_|apply e_|apply f_|apply g_);focus first|omega|(simp only[q_]<;>omega))|((with_reducible first|apply i_|apply h_);focus first|omega|(simp only[q_]<;>omega))|((with_reducible apply h_);focus first|decide|kernel_rfl)|refine s_ (by decide) ?_|refine t_ (by decide) ?_|(refine Idx.mapI (f:=iC) k rfl q ?_)|refine r_ pw rfl ?_|with_reducible first|apply l_|apply m_|apply n_|apply o_|refine p_ (fun _=>?_) (fun _=>?_))<;>(conv=>whnf)))
        all_goals first|exact Ret.int rfl | (exfalso;omega)
      · rw[if_neg h] at hz
        ((conv=>whnf);repeat' ((first|(with_reducible first|apply a_|apply b_|apply c_)|((with_reducible first|apply d_|apply e_|apply f_|apply g_);focus first|omega|(simp only[q_]<;>omega))|((with_reducible first|apply i_|apply h_);focus first|omega|(simp only[q_]<;>omega))|((with_reducible apply h_);focus first|decide|kernel_rfl)|refine s_ (by decide) ?_|refine t_ (by decide) ?_|(refine Idx.mapI (f:=iC) k rfl q ?_)|refine r_ pw rfl ?_|with_reducible first|apply l_|apply m_|apply n_|apply o_|refine p_ (fun _=>?_) (fun _=>?_))<;>(conv=>whnf)))
        all_goals first
          | (exfalso;omega)
          | exact⟨k+1,⟨by show k+1≤_;omega,hz⟩,by show at_.length - (k+1)<at_.length - k;omega,[],rfl,rfl,⟨.inl rfl,.inl rfl,PLe.int (by simp),PLe.int (by omega),trivial⟩,trivial⟩
    · rw[List.drop_of_length_le (by omega)] at hz
      rw[hz]
      ((conv=>whnf);repeat' ((first|(with_reducible first|apply a_|apply b_|apply c_)|((with_reducible first|apply d_|apply e_|apply f_|apply g_);focus first|omega|(simp only[q_]<;>omega))|((with_reducible first|apply i_|apply h_);focus first|omega|(simp only[q_]<;>omega))|((with_reducible apply h_);focus first|decide|kernel_rfl)|refine s_ (by decide) ?_|refine t_ (by decide) ?_|with_reducible first|apply l_|apply m_|apply n_|apply o_|refine p_ (fun _=>?_) (fun _=>?_))<;>(conv=>whnf)))
      all_goals first|exact Ret.mk rfl | (exfalso;omega)
end
section
open Go.RowKit K
set_option maxRecDepth 100000
set_option maxRecDepth 100000
abbrev TPA:Nat:=108
abbrev TP:Nat:=110
abbrev TV:Nat:=33
abbrev TES:Nat:=49
theorem p_equal (a b:List ValueD) (ha:a.length≤140737488355328):Pure Tryz.prog 94 [slV 3 ValueD.c a,slV 3 ValueD.c b] (pBool (rowEqB a b)):=by
  unfold rowEqB
  refine pure_of Tryz.func94 (by rfl) rfl (by kernel_rfl) (by rfl) ?_
  by_cases hl:a.length=b.length
  · ((conv=>whnf);repeat' ((first|(with_reducible first|apply a_|apply b_|apply c_)|((with_reducible first|apply d_|apply e_|apply f_|apply g_);focus first|omega|(simp only[q_]<;>omega))|((with_reducible first|apply i_|apply h_);focus first|omega|(simp only[q_]<;>omega))|((with_reducible apply h_);focus first|decide|kernel_rfl)|refine s_ (by decide) ?_|refine t_ (by decide) ?_|with_reducible first|apply l_|apply m_|apply n_|apply o_|refine p_ (fun _=>?_) (fun _=>?_))<;>(conv=>whnf)))
    refine LoopC.mk Nat (fun k=>[(0,slV 3 ValueD.c a),(1,slV 3 ValueD.c b),(12,pInt .i64 a.length),(13,pInt .i64 k)]) (fun _=>[]) [] (fun k=>k≤a.length∧listEqB ValueD.eqB (a.take k) (b.take k)=true) (fun k=>a.length - k) 0 ⟨Nat.zero_le _,by simp[listEqB]⟩ ?start ?round
    case start=>exact⟨[],rfl,rfl,⟨.inl rfl,.inl rfl,PLe.int (by simp),.inl rfl,trivial⟩,trivial⟩
    case round=>
      rintro k ⟨hk,hz⟩
      have hk:k≤a.length:=hk
      by_cases h1:k<a.length
      · have h2:k<b.length:=by omega
        cases hx:ValueD.eqB a[k] b[k] with
        | true=>
          ((conv=>whnf);repeat' ((first|(with_reducible first|apply a_|apply b_|apply c_)|((with_reducible first|apply d_|apply e_|apply f_|apply g_);focus first|omega|(simp only[q_]<;>omega))|((with_reducible first|apply i_|apply h_);focus first|omega|(simp only[q_]<;>omega))|((with_reducible apply h_);focus first|decide|kernel_rfl)|refine s_ (by decide) ?_|refine t_ (by decide) ?_|(first|refine Idx.mapI (l:=a) k rfl h1 ?_|refine Idx.mapI (l:=b) k rfl h2 ?_)|(refine BCase.f (congrArg not hx) ?_)|with_reducible first|apply l_|apply m_|apply n_|apply o_|refine p_ (fun _=>?_) (fun _=>?_))<;>(conv=>whnf)))
          exact⟨k+1,⟨by omega,(listEqB_step hz h1 h2).trans hx⟩,by omega,[],rfl,rfl,⟨.inl rfl,.inl rfl,.inl rfl,PLe.int (by omega),trivial⟩,trivial⟩
        | false=>
          ((conv=>whnf);repeat' ((first|(with_reducible first|apply a_|apply b_|apply c_)|((with_reducible first|apply d_|apply e_|apply f_|apply g_);focus first|omega|(simp only[q_]<;>omega))|((with_reducible first|apply i_|apply h_);focus first|omega|(simp only[q_]<;>omega))|((with_reducible apply h_);focus first|decide|kernel_rfl)|refine s_ (by decide) ?_|refine t_ (by decide) ?_|(first|refine Idx.mapI (l:=a) k rfl h1 ?_|refine Idx.mapI (l:=b) k rfl h2 ?_)|(refine BCase.t (congrArg not hx) ?_)|with_reducible first|apply l_|apply m_|apply n_|apply o_|refine p_ (fun _=>?_) (fun _=>?_))<;>(conv=>whnf)))
          exact Ret.bool (listEqB_stop h1 h2 hx).symm
      · ((conv=>whnf);repeat' ((first|(with_reducible first|apply a_|apply b_|apply c_)|((with_reducible first|apply d_|apply e_|apply f_|apply g_);focus first|omega|(simp only[q_]<;>omega))|((with_reducible first|apply i_|apply h_);focus first|omega|(simp only[q_]<;>omega))|((with_reducible apply h_);focus first|decide|kernel_rfl)|refine s_ (by decide) ?_|refine t_ (by decide) ?_|with_reducible first|apply l_|apply m_|apply n_|apply o_|refine p_ (fun _=>?_) (fun _=>?_))<;>(conv=>whnf)))
        exact Ret.bool (listEqB_all hz (by omega) (by omega)).symm
  · ((conv=>whnf);repeat' ((first|(with_reducible first|apply a_|apply b_|apply c_)|((with_reducible first|apply d_|apply e_|apply f_|apply g_);focus first|omega|(simp only[q_]<;>omega))|((with_reducible first|apply i_|apply h_);focus first|omega|(simp only[q_]<;>omega))|((with_reducible apply h_);focus first|decide|kernel_rfl)|refine s_ (by decide) ?_|refine t_ (by decide) ?_|with_reducible first|apply l_|apply m_|apply n_|apply o_|refine p_ (fun _=>?_) (fun _=>?_))<;>(conv=>whnf)))
    exact Ret.bool (listEqB_len hl).symm
theorem rowEqB_refl (a:RowT):rowEqB a a=true:=(listEqB_iff ValueD.eqB_iff a a).2 rfl
theorem s_same (a b:List ValueD) (rows:List (List C)) (ha:a.length≤140737488355328):CallS Tryz.prog 93 [.d (.ptr FK 0),.d (.ptr FK1 0)]
    [(FK,.box TP [.app FK2 TV 3 (a.map ValueD.c),.app FK3 TES 1 rows]),(FK1,.box TES [.app NK1 TV 3 (b.map ValueD.c)]),(FK2,.tail TV 3),(FK3,.tail TES 1),(NK1,.tail TV 3)] [] (pBool (rowEqB a b)) []:=by
  have pe:=p_equal a b ha
  refine callS_of Tryz.func93 (by rfl) rfl (by kernel_rfl) (by rfl) [FK,FK1,FK2,FK3,NK1] rfl ?_
  ((conv=>whnf);repeat' ((first|(with_reducible first|apply a_|apply b_|apply c_)|((with_reducible first|apply d_|apply e_|apply f_|apply g_);focus first|omega|(simp only[q_]<;>omega))|((with_reducible first|apply i_|apply h_);focus first|omega|(simp only[q_]<;>omega))|((with_reducible apply h_);focus first|decide|kernel_rfl)|refine s_ (by decide) ?_|refine t_ (by decide) ?_|refine r_ pe rfl ?_|with_reducible first|apply l_|apply m_|apply n_|apply o_|refine p_ (fun _=>?_) (fun _=>?_))<;>(conv=>whnf)))
  all_goals first
    | (refine RetS.mk [(FK,FK),(FK1,FK1),(FK2,FK2),(FK3,FK3),(NK1,NK1)] [FK,FK1,FK2,FK3,NK1] rfl rfl ?_ ?_<;>repeat' (first|exact rfl|exact trivial|exact Or.inl rfl|refine And.intro ?_ ?_))
    | skip
theorem s_index0 (b:List ValueD):CallS Tryz.prog 92 [.d (.c (.v (.slice none 0 0))),.d (.clo 93 [] [.ptr FK1 0])]
    [(FK1,.box TES [.app NK1 TV 3 (b.map ValueD.c)]),(NK1,.tail TV 3)] [] (pInt .i64 (-1)) []:=by
  refine callS_of Tryz.func92 (by rfl) rfl (by kernel_rfl) (by rfl) [FK1,NK1] rfl ?_
  ((conv=>whnf);repeat' ((first|(with_reducible first|apply a_|apply b_|apply c_)|((with_reducible first|apply d_|apply e_|apply f_|apply g_);focus first|omega|(simp only[q_]<;>omega))|((with_reducible first|apply i_|apply h_);focus first|omega|(simp only[q_]<;>omega))|((with_reducible apply h_);focus first|decide|kernel_rfl)|refine s_ (by decide) ?_|refine t_ (by decide) ?_|with_reducible first|apply l_|apply m_|apply n_|apply o_|refine p_ (fun _=>?_) (fun _=>?_))<;>(conv=>whnf)))
  refine LoopC.mk Unit (fun _=>[(7,pInt .i64 0),(8,pInt .i64 0)]) (fun _=>[(FK1,.box TES [.app NK1 TV 3 (b.map ValueD.c)]),(NK1,.tail TV 3)]) [FK1,NK1] (fun _=>True) (fun _=>0) () trivial ?start ?round
  case start=>refine⟨[(FK1,FK1),(NK1,NK1)],?_,?_,?_,?_⟩<;>repeat' (first|exact rfl|exact trivial|exact Or.inl rfl|refine And.intro ?_ ?_)
  case round=>
    rintro _ _
    ((conv=>whnf);repeat' ((first|(with_reducible first|apply a_|apply b_|apply c_)|((with_reducible first|apply d_|apply e_|apply f_|apply g_);focus first|omega|(simp only[q_]<;>omega))|((with_reducible first|apply i_|apply h_);focus first|omega|(simp only[q_]<;>omega))|((with_reducible apply h_);focus first|decide|kernel_rfl)|refine s_ (by decide) ?_|refine t_ (by decide) ?_|with_reducible first|apply l_|apply m_|apply n_|apply o_|refine p_ (fun _=>?_) (fun _=>?_))<;>(conv=>whnf)))
    all_goals first
      | (refine RetS.mk [(FK1,FK1),(NK1,NK1)] [FK1,NK1] rfl rfl ?_ ?_<;>repeat' (first|exact rfl|exact trivial|exact Or.inl rfl|refine And.intro ?_ ?_))
      | skip
theorem s_index1 (a b:List ValueD) (rows:List (List C)) (ha:a.length≤140737488355328):CallS Tryz.prog 92 [.d (.arr NK2 TPA 1 0 1),.d (.clo 93 [] [.ptr FK1 0])]
    [(NK2,.darr TPA 1 [[.ptr FK 0]]),(FK,.box TP [.app FK2 TV 3 (a.map ValueD.c),.app FK3 TES 1 rows]),(FK1,.box TES [.app NK1 TV 3 (b.map ValueD.c)]),(FK2,.tail TV 3),(FK3,.tail TES 1),(NK1,.tail TV 3)] [] (pInt .i64 (if rowEqB a b then 0 else -1)) []:=by
  have ps:=s_same a b rows ha
  refine callS_of Tryz.func92 (by rfl) rfl (by kernel_rfl) (by rfl) [NK2,FK,FK1,FK2,FK3,NK1] rfl ?_
  ((conv=>whnf);repeat' ((first|(with_reducible first|apply a_|apply b_|apply c_)|((with_reducible first|apply d_|apply e_|apply f_|apply g_);focus first|omega|(simp only[q_]<;>omega))|((with_reducible first|apply i_|apply h_);focus first|omega|(simp only[q_]<;>omega))|((with_reducible apply h_);focus first|decide|kernel_rfl)|refine s_ (by decide) ?_|refine t_ (by decide) ?_|with_reducible first|apply l_|apply m_|apply n_|apply o_|refine p_ (fun _=>?_) (fun _=>?_))<;>(conv=>whnf)))
  refine LoopC.mk Nat (fun k=>[(0,.d (.arr NK2 TPA 1 0 1)),(1,.d (.clo 93 [] [.ptr FK1 0])),(7,pInt .i64 1),(8,pInt .i64 (k:Int))])
    (fun _=>[(NK2,.darr TPA 1 [[.ptr FK 0]]),(FK,.box TP [.app FK2 TV 3 (a.map ValueD.c),.app FK3 TES 1 rows]),(FK1,.box TES [.app NK1 TV 3 (b.map ValueD.c)]),(FK2,.tail TV 3),(FK3,.tail TES 1),(NK1,.tail TV 3)]) [NK2,FK,FK1,FK2,FK3,NK1]
    (fun k=>k=0∨(k=1∧rowEqB a b=false)) (fun k=>1 - k) 0 (.inl rfl) ?start ?round
  case start=>refine⟨[(NK2,NK2),(FK,FK),(FK1,FK1),(FK2,FK2),(FK3,FK3),(NK1,NK1)],?_,?_,?_,?_⟩<;>repeat' (first|exact rfl|exact trivial|exact Or.inl rfl|refine And.intro ?_ ?_)
  case round=>
    rintro k (rfl | ⟨rfl,hk⟩)
    · cases hx:rowEqB a b with
      | true=>
        rw[hx] at ps
        ((conv=>whnf);repeat' ((first|(with_reducible first|apply a_|apply b_|apply c_)|((with_reducible first|apply d_|apply e_|apply f_|apply g_);focus first|omega|(simp only[q_]<;>omega))|((with_reducible first|apply i_|apply h_);focus first|omega|(simp only[q_]<;>omega))|((with_reducible apply h_);focus first|decide|kernel_rfl)|refine s_ (by decide) ?_|refine t_ (by decide) ?_|(refine CallP.ret [(FK,FK),(FK1,FK1),(FK2,FK2),(FK3,FK3),(NK1,NK1)] _ _ _ _ _ _ _ ps rfl rfl rfl rfl ⟨rfl,rfl,rfl,rfl,rfl,trivial⟩ ?_)|(refine Row.mk [.ptr FK 0] rfl ?_)|with_reducible first|apply l_|apply m_|apply n_|apply o_|refine p_ (fun _=>?_) (fun _=>?_))<;>(conv=>whnf)))
        all_goals first
          | (refine RetS.mk [(NK2,NK2),(FK,FK),(FK1,FK1),(FK2,FK2),(FK3,FK3),(NK1,NK1)] [NK2,FK,FK1,FK2,FK3,NK1] rfl rfl ?_ ?_<;>repeat' (first|exact rfl|exact trivial|exact Or.inl rfl|refine And.intro ?_ ?_))
          | skip
      | false=>
        rw[hx] at ps
        ((conv=>whnf);repeat' ((first|(with_reducible first|apply a_|apply b_|apply c_)|((with_reducible first|apply d_|apply e_|apply f_|apply g_);focus first|omega|(simp only[q_]<;>omega))|((with_reducible first|apply i_|apply h_);focus first|omega|(simp only[q_]<;>omega))|((with_reducible apply h_);focus first|decide|kernel_rfl)|refine s_ (by decide) ?_|refine t_ (by decide) ?_|(refine CallP.ret [(FK,FK),(FK1,FK1),(FK2,FK2),(FK3,FK3),(NK1,NK1)] _ _ _ _ _ _ _ ps rfl rfl rfl rfl ⟨rfl,rfl,rfl,rfl,rfl,trivial⟩ ?_)|(refine Row.mk [.ptr FK 0] rfl ?_)|with_reducible first|apply l_|apply m_|apply n_|apply o_|refine p_ (fun _=>?_) (fun _=>?_))<;>(conv=>whnf)))
        all_goals first
          | (refine⟨1,.inr ⟨rfl,rfl⟩,by decide,[(NK2,NK2),(FK,FK),(FK1,FK1),(FK2,FK2),(FK3,FK3),(NK1,NK1)],?_,?_,?_,?_⟩<;>repeat' (first|exact rfl|exact trivial|exact Or.inl rfl|exact PLe.int (by decide) | refine And.intro ?_ ?_))
          | skip
    · rw[hk]
      ((conv=>whnf);repeat' ((first|(with_reducible first|apply a_|apply b_|apply c_)|((with_reducible first|apply d_|apply e_|apply f_|apply g_);focus first|omega|(simp only[q_]<;>omega))|((with_reducible first|apply i_|apply h_);focus first|omega|(simp only[q_]<;>omega))|((with_reducible apply h_);focus first|decide|kernel_rfl)|refine s_ (by decide) ?_|refine t_ (by decide) ?_|with_reducible first|apply l_|apply m_|apply n_|apply o_|refine p_ (fun _=>?_) (fun _=>?_))<;>(conv=>whnf)))
      all_goals first
        | (refine RetS.mk [(NK2,NK2),(FK,FK),(FK1,FK1),(FK2,FK2),(FK3,FK3),(NK1,NK1)] [NK2,FK,FK1,FK2,FK3,NK1] rfl rfl ?_ ?_<;>repeat' (first|exact rfl|exact trivial|exact Or.inl rfl|refine And.intro ?_ ?_))
        | skip
abbrev grpsE (l:List RowT) (c:Nat) (out:D) (k:Nat):List (Nat×PV):=[(1,slV 1 iC [(c:Int)]),(5,.d out),(18,rwsV l),(19,pInt .i64 l.length),(20,pInt .i64 (k:Int))]
abbrev partsH (y:ValueD) (rows:List (List C)):Rf:=[(50,.darr TPA 1 [[.ptr 48 0]]),(48,.box TP [.app 162 TV 3 [y.c],.app 163 TES 1 rows]),(162,.tail TV 3),(163,.tail TES 1)]
abbrev innerE (l:List RowT) (c:Nat) (out:D) (k:Nat) (r:RowT) (j:Nat):List (Nat×PV):=[(7,slV 3 ValueD.c r),(8,.d (.ptr 8 0)),(24,slV 1 iC [(c:Int)]),(25,pInt .i64 1),(26,pInt .i64 (j:Int))]++grpsE l c out k
abbrev innerH (y:ValueD) (j:Nat):Rf:=[(8,.box TES [.app 161 TV 3 (([y].take j).map ValueD.c)]),(161,.tail TV 3)]
def outK:Nat→D
  | 0=>.c (.v (.slice none 0 0))
  | _+1=>.arr 50 TPA 1 0 1
def partsHk (y:ValueD) (l:List RowT):Nat→Rf
  | 0=>[]
  | k+1=>partsH y ((l.take (k+1)).map rowC)
set_option maxHeartbeats 1000000 in
theorem s_parts (l:List RowT) (c:Nat) (y:ValueD) (hl:0<l.length) (h40:l.length≤40) (hy:∀r∈l,r.length≤8∧(r.map ValueD.c)[((c:Nat):Int).toNat]? = some y.c) :
    CallS Tryz.prog 73 [rwsV l,slV 1 iC [(c:Int)]] [] [] (.d (.arr NK TPA 1 0 1)) [(NK,.darr TPA 1 [[.ptr NK1 0]]),(NK1,.box TP [.app NK2 TV 3 [y.c],.app FK2 TES 1 (l.map rowC)]),(NK2,.tail TV 3),(FK2,.tail TES 1)]:=by
  have hml:(l.map rowC).length=l.length:=List.length_map _
  have s0:=s_index0 [y]
  refine callS_of Tryz.func73 (by rfl) rfl (by kernel_rfl) (by rfl) [] rfl ?_
  ((conv=>whnf);repeat' ((first|(with_reducible first|apply a_|apply b_|apply c_)|((with_reducible first|apply d_|apply e_|apply f_|apply g_);focus first|omega|(simp only[q_]<;>omega))|((with_reducible first|apply i_|apply h_);focus first|omega|(simp only[q_]<;>omega))|((with_reducible apply h_);focus first|decide|kernel_rfl)|refine s_ (by decide) ?_|refine t_ (by decide) ?_|with_reducible first|apply l_|apply m_|apply n_|apply o_|refine p_ (fun _=>?_) (fun _=>?_))<;>(conv=>whnf)))
  refine LoopC.mk Nat (fun k=>grpsE l c (outK k) k) (fun k=>partsHk y l k) [50,48,162,163] (fun k=>k≤l.length) (fun k=>l.length - k) 0 (Nat.zero_le _) ?start ?round
  case start=>exact⟨[],rfl,rfl,⟨.inl rfl,.inl rfl,.inl rfl,PLe.int (by simp),.inl rfl,trivial⟩,trivial⟩
  case round=>
    intro k hk
    have hk:k≤l.length:=hk
    cases k with
    | zero=>
      obtain⟨h8,hix⟩:=hy l[0] (List.getElem_mem hl)
      have hm0:(l[0].map ValueD.c).length=l[0].length:=List.length_map _
      ((conv=>whnf);repeat' ((first|(with_reducible first|apply a_|apply b_|apply c_)|((with_reducible first|apply d_|apply e_|apply f_|apply g_);focus first|omega|(simp only[q_]<;>omega))|((with_reducible first|apply i_|apply h_);focus first|omega|(simp only[q_]<;>omega))|((with_reducible apply h_);focus first|decide|kernel_rfl)|refine s_ (by decide) ?_|refine t_ (by decide) ?_|(refine Idx.mapI (f:=rowC) 0 rfl hl ?_)|with_reducible first|apply l_|apply m_|apply n_|apply o_|refine p_ (fun _=>?_) (fun _=>?_))<;>(conv=>whnf)))
      refine LoopC.mk Nat (fun j=>innerE l c (.c (.v (.slice none 0 0))) 0 l[0] j) (fun j=>innerH y j) [8,161] (fun j=>j≤1) (fun j=>1 - j) 0 (Nat.zero_le _) ?start0 ?round0
      case start0=>refine⟨[(8,8)],?_,?_,?_,?_⟩<;>repeat' (first|exact rfl|exact trivial|exact Or.inl rfl|exact PLe.int (by simp) | exact Nat.zero_lt_succ _|refine And.intro ?_ ?_)
      case round0=>
        intro j hj
        have hj:j≤1:=hj
        obtain rfl | rfl:j=0∨j=1:=by omega
        · ((conv=>whnf);repeat' ((first|(with_reducible first|apply a_|apply b_|apply c_)|((with_reducible first|apply d_|apply e_|apply f_|apply g_);focus first|omega|(simp only[q_]<;>omega))|((with_reducible first|apply i_|apply h_);focus first|omega|(simp only[q_]<;>omega))|((with_reducible apply h_);focus first|decide|kernel_rfl)|refine s_ (by decide) ?_|refine t_ (by decide) ?_|(first|refine Idx.mk (iC c) (by decide) rfl ?_|refine Idx.mk y.c (by omega) hix ?_)|(refine Need.by 32 rfl (by simp) ?_)|with_reducible first|apply l_|apply m_|apply n_|apply o_|refine p_ (fun _=>?_) (fun _=>?_))<;>(conv=>whnf)))
          all_goals first
            | (refine⟨1,by decide,by decide,[(8,8),(161,36)],?_,?_,?_,?_⟩<;>repeat' (first|exact rfl|exact trivial|exact Or.inl rfl|exact PLe.int (by decide) | refine And.intro ?_ ?_))
            | skip
        · ((conv=>whnf);repeat' ((first|(with_reducible first|apply a_|apply b_|apply c_)|((with_reducible first|apply d_|apply e_|apply f_|apply g_);focus first|omega|(simp only[q_]<;>omega))|((with_reducible first|apply i_|apply h_);focus first|omega|(simp only[q_]<;>omega))|((with_reducible apply h_);focus first|decide|kernel_rfl)|refine s_ (by decide) ?_|refine t_ (by decide) ?_|(refine CallP.ret [(FK1,8),(NK1,161)] _ _ _ _ _ _ _ s0 rfl rfl rfl rfl ⟨rfl,rfl,trivial⟩ ?_)|(refine Row.mk [.ptr 48 0] rfl ?_)|(refine Need.by 24 rfl (by simp) ?_)|with_reducible first|apply l_|apply m_|apply n_|apply o_|refine p_ (fun _=>?_) (fun _=>?_))<;>(conv=>whnf)))
          all_goals first
            | (refine⟨0+1,hl,by omega,[(50,50),(48,48),(162,161),(163,64)],?_,?_,?_,?_⟩<;>repeat' (first|exact rfl|exact trivial|exact Or.inl rfl|exact PLe.int (by simp) | exact (by rw[take_snoc hl];rfl) | refine And.intro ?_ ?_))
            | skip
    | succ k=>
      by_cases q:k+1<l.length
      · obtain⟨h8,hix⟩:=hy l[k+1] (List.getElem_mem q)
        have hm0:(l[k+1].map ValueD.c).length=l[k+1].length:=List.length_map _
        have s1:=s_index1 [y] [y] ((l.take (k+1)).map rowC) (by simp)
        rw[show rowEqB [y] [y]=true from (rowEqB_refl _),if_pos rfl] at s1
        have hrl:((l.take (k+1)).map rowC).length≤40:=by rw[List.length_map,List.length_take];omega
        ((conv=>whnf);repeat' ((first|(with_reducible first|apply a_|apply b_|apply c_)|((with_reducible first|apply d_|apply e_|apply f_|apply g_);focus first|omega|(simp only[q_]<;>omega))|((with_reducible first|apply i_|apply h_);focus first|omega|(simp only[q_]<;>omega))|((with_reducible apply h_);focus first|decide|kernel_rfl)|refine s_ (by decide) ?_|refine t_ (by decide) ?_|(refine Idx.mapI (f:=rowC) (k+1) rfl q ?_)|with_reducible first|apply l_|apply m_|apply n_|apply o_|refine p_ (fun _=>?_) (fun _=>?_))<;>(conv=>whnf)))
        refine LoopC.mk Nat (fun j=>innerE l c (.arr 50 TPA 1 0 1) (k+1) l[k+1] j) (fun j=>innerH y j++partsH y ((l.take (k+1)).map rowC)) [8,161,50,48,162,163] (fun j=>j≤1) (fun j=>1 - j) 0 (Nat.zero_le _) ?start1 ?round1
        case start1=>refine⟨[(8,8),(50,50),(48,48),(162,162),(163,163)],?_,?_,?_,?_⟩<;>repeat' (first|exact rfl|exact trivial|exact Or.inl rfl|exact PLe.int (by simp) | exact Nat.zero_lt_succ _|refine And.intro ?_ ?_)
        case round1=>
          intro j hj
          have hj:j≤1:=hj
          obtain rfl | rfl:j=0∨j=1:=by omega
          · ((conv=>whnf);repeat' ((first|(with_reducible first|apply a_|apply b_|apply c_)|((with_reducible first|apply d_|apply e_|apply f_|apply g_);focus first|omega|(simp only[q_]<;>omega))|((with_reducible first|apply i_|apply h_);focus first|omega|(simp only[q_]<;>omega))|((with_reducible apply h_);focus first|decide|kernel_rfl)|refine s_ (by decide) ?_|refine t_ (by decide) ?_|(first|refine Idx.mk (iC c) (by decide) rfl ?_|refine Idx.mk y.c (by omega) hix ?_)|(refine Need.by 32 rfl (by simp) ?_)|with_reducible first|apply l_|apply m_|apply n_|apply o_|refine p_ (fun _=>?_) (fun _=>?_))<;>(conv=>whnf)))
            all_goals first
              | (refine⟨1,by decide,by decide,[(8,8),(161,36),(50,50),(48,48),(162,162),(163,163)],?_,?_,?_,?_⟩<;>repeat' (first|exact rfl|exact trivial|exact Or.inl rfl|exact PLe.int (by decide) | refine And.intro ?_ ?_))
              | skip
          · ((conv=>whnf);repeat' ((first|(with_reducible first|apply a_|apply b_|apply c_)|((with_reducible first|apply d_|apply e_|apply f_|apply g_);focus first|omega|(simp only[q_]<;>omega))|((with_reducible first|apply i_|apply h_);focus first|omega|(simp only[q_]<;>omega))|((with_reducible apply h_);focus first|decide|kernel_rfl)|refine s_ (by decide) ?_|refine t_ (by decide) ?_|(refine CallP.ret [(NK2,50),(FK,48),(FK1,8),(FK2,162),(FK3,163),(NK1,161)] _ _ _ _ _ _ _ s1 rfl rfl rfl rfl ⟨rfl,rfl,rfl,rfl,rfl,rfl,trivial⟩ ?_)|(refine Row.mk [.ptr 48 0] rfl ?_)|(refine Need.by 24 rfl (by simp only[List.length_singleton];omega) ?_)|with_reducible first|apply l_|apply m_|apply n_|apply o_|refine p_ (fun _=>?_) (fun _=>?_))<;>(conv=>whnf)))
            all_goals first
              | (refine⟨k+1+1,q,by omega,[(50,50),(48,48),(162,162),(163,64)],?_,?_,?_,?_⟩<;>repeat' (first|exact rfl|exact trivial|exact Or.inl rfl|exact PLe.int (by simp) | exact PLe.int (by omega) | exact (by rw[take_snoc q,List.map_append];rfl) | refine And.intro ?_ ?_))
              | skip
      · have e:l.take (k+1)=l:=List.take_of_length_le (by omega)
        ((conv=>whnf);repeat' ((first|(with_reducible first|apply a_|apply b_|apply c_)|((with_reducible first|apply d_|apply e_|apply f_|apply g_);focus first|omega|(simp only[q_]<;>omega))|((with_reducible first|apply i_|apply h_);focus first|omega|(simp only[q_]<;>omega))|((with_reducible apply h_);focus first|decide|kernel_rfl)|refine s_ (by decide) ?_|refine t_ (by decide) ?_|with_reducible first|apply l_|apply m_|apply n_|apply o_|refine p_ (fun _=>?_) (fun _=>?_))<;>(conv=>whnf)))
        all_goals first
          | (refine RetS.mk [(NK,50),(NK1,48),(NK2,162),(FK2,163)] [NK,NK1,NK2,FK2] rfl rfl ?_ ?_<;>repeat' (first|exact rfl|exact trivial|exact Or.inl rfl|refine And.intro ?_ ?_ | (rw[e];done)))
          | skip
end
section
open Go.RowKit K
set_option maxRecDepth 100000
set_option maxRecDepth 100000
structure AggD where
  Kind:Int
  Col:Int
def AggD.c (x:AggD):List C:=[.v (.int .i64 x.Kind),.v (.int .i64 x.Col)]
def AggD.ok (x:AggD):Prop:=okInt x.Kind∧okInt x.Col
def AggD.eqB (x y:AggD):Bool:=(decide (x.Kind=y.Kind)&&(decide (x.Col=y.Col)&&true))
theorem AggD.eqB_iff (x y:AggD):AggD.eqB x y=true↔x=y:=by
  cases x;cases y
  simp[AggD.eqB,tx_eq]
abbrev aV (x:AggD):PV:=.agg (x.c.map D.c)
theorem rep_ints {F:Fzn} {w:World}:∀{l:List Int} {us:List Value},CsRep F w (l.map fun x=>C.v (.int .i64 x)) us→us=l.map (Value.int .i64)
  | [],us,h=>csRep_nil_inv h
  | x::l,us,h=>by
    obtain⟨u,vs,rfl,h1,h2⟩:=csRep_inv h
    unfold CRep at h1
    rw[h1.1,rep_ints h2];rfl
theorem p_wsum (l:List Int) (hl:∀x∈l,WholeP.In64 x):Pure Tryz.prog 115 [slV 1 iC l] (.tup [pInt .i64 (WholeP.total l).1,pInt .i64 (WholeP.total l).2]):=by
  refine⟨⟨_,Tryz.func115,rfl,by kernel_rfl⟩,fun F w vs hG hF hvs=>?_⟩
  obtain⟨v,rfl,hv⟩:∃v,vs=[v]∧PRep (fun _=>none) F w (slV 1 iC l) v:=by
    cases vs with
    | nil=>unfold PsRep at hvs;exact hvs.elim
    | cons v vs=>
      unfold PsRep at hvs
      cases vs with
      | nil=>exact⟨v,rfl,hvs.1⟩
      | cons _ _=>have:=hvs.2;unfold PsRep at this;exact this.elim
  unfold PRep DRep CRep at hv
  obtain⟨a,cap,rfl,c1,c2,c3,c4⟩:=hv
  rw[List.length_map] at c1
  have hseen:Seen w (.slice a l.length cap) l.length 1 (l.map (Value.int .i64)):=by
    refine⟨by rw[List.length_map,Nat.mul_one],a,cap,rfl,c1,c2,c3,?_⟩
    rcases c4 with c4 | ⟨b,off,rfl,c5⟩
    · exact .inl (by simpa using congrArg List.length c4)
    · by_cases hz:l.length=0
      · exact .inl hz
      · obtain⟨_,c6⟩:=rowsAt_iff.1 c5
        have hfl:(l.map iC).flatten=l.map fun x=>C.v (.int .i64 x):=by
          have:l.map iC=(l.map fun x=>C.v (.int .i64 x)).map fun c=>[c]:=by rw[List.map_map];rfl
          rw[this]
          generalize (l.map fun x=>C.v (.int .i64 x))=A
          induction A with
          | nil=>rfl
          | cons x xs ih=>rw[List.map_cons,List.flatten_cons,ih];rfl
        rw[hfl] at c6
        obtain⟨us,u1,u2,u3⟩:=csAt_values c6
        obtain rfl:=rep_ints u1
        exact .inr ⟨b,off,rfl,hF _ _ (u3 0 (by rw[List.length_map];omega)),u2⟩
  rw[List.length_map]
  refine (WholeP.total_any l hl _ w hseen).mono ?_
  rintro e w' ⟨rfl,hb⟩
  refine⟨_,rfl,hb,?_⟩
  unfold PRep
  exact⟨_,rfl,by unfold PsRep;exact⟨by unfold PRep DRep CRep;exact⟨rfl,rfl⟩,by unfold PsRep;exact⟨by unfold PRep DRep CRep;exact⟨rfl,rfl⟩,by unfold PsRep;trivial⟩⟩⟩
def colF (l:List RowT) (c:Nat):List ValueD:=(l.map fun r=>r[c]?.getD noV).filter fun v=>decide (v.Kind≠0)
theorem colF_snoc {l:List RowT} {c k:Nat} (h:k<l.length) (hc:c<l[k].length):colF (l.take (k+1)) c=colF (l.take k) c++(if l[k][c].Kind≠0 then [l[k][c]] else []):=by
  unfold colF
  rw[take_snoc h,List.map_append,List.filter_append]
  congr 1
  simp only[List.map_cons,List.map_nil,List.getElem?_eq_getElem hc,Option.getD_some,List.filter_cons,List.filter_nil,decide_eq_true_eq]
theorem colF_len (l:List RowT) (c:Nat):(colF l c).length≤l.length:=by
  unfold colF
  exact Nat.le_trans (List.length_filter_le _ _) (by rw[List.length_map];exact Nat.le_refl _)
theorem p_column (l:List RowT) (c:Nat) (h40:l.length≤40) (hc:∀r∈l,c<r.length∧r.length≤8):Pure Tryz.prog 95 [rwsV l,pInt .i64 (c:Int)] (slV 3 ValueD.c (colF l c)):=by
  have hml:(l.map rowC).length=l.length:=List.length_map _
  refine pure_of Tryz.func95 (by rfl) rfl (by kernel_rfl) (by rfl) ?_
  ((conv=>whnf);repeat' ((first|(with_reducible first|apply a_|apply b_|apply c_)|((with_reducible first|apply d_|apply e_|apply f_|apply g_);focus first|omega|(simp only[q_]<;>omega))|((with_reducible first|apply i_|apply h_);focus first|omega|(simp only[q_]<;>omega))|((with_reducible apply h_);focus first|decide|kernel_rfl)|refine s_ (by decide) ?_|refine t_ (by decide) ?_|with_reducible first|apply l_|apply m_|apply n_|apply o_|refine p_ (fun _=>?_) (fun _=>?_))<;>(conv=>whnf)))
  refine LoopC.mk Nat (fun k=>[(1,pInt .i64 (c:Int)),(5,.d (.app 60 TV 3 ((colF (l.take k) c).map ValueD.c))),(8,rwsV l),(9,pInt .i64 l.length),(10,pInt .i64 (k:Int))]) (fun _=>[(60,.tail TV 3)]) [60] (fun k=>k≤l.length) (fun k=>l.length - k) 0 (Nat.zero_le _) ?start ?round
  case start=>exact⟨[],rfl,rfl,⟨.inl rfl,⟨rfl,rfl,Nat.zero_lt_succ _,rfl,rfl⟩,.inl rfl,PLe.int (by simp),.inl rfl,trivial⟩,⟨rfl,Nat.zero_lt_succ _⟩,trivial⟩
  case round=>
    intro k hk
    have hk:k≤l.length:=hk
    by_cases q:k<l.length
    · obtain⟨hck,h8⟩:=hc l[k] (List.getElem_mem q)
      have hm0:(l[k].map ValueD.c).length=l[k].length:=List.length_map _
      have hcl:=colF_len (l.take k) c
      rw[List.length_take] at hcl
      have hsn:=colF_snoc q hck
      by_cases hz:l[k][c].Kind≠0
      · rw[if_pos hz] at hsn
        ((conv=>whnf);repeat' ((first|(with_reducible first|apply a_|apply b_|apply c_)|((with_reducible first|apply d_|apply e_|apply f_|apply g_);focus first|omega|(simp only[q_]<;>omega))|((with_reducible first|apply i_|apply h_);focus first|omega|(simp only[q_]<;>omega))|((with_reducible apply h_);focus first|decide|kernel_rfl)|refine s_ (by decide) ?_|refine t_ (by decide) ?_|(first|refine Idx.mapI (f:=rowC) k rfl q ?_|refine Idx.mapI (l:=l[k]) c rfl hck ?_)|(refine Need.by 32 rfl (by simp only[List.length_map,List.length_singleton];omega) ?_)|with_reducible first|apply l_|apply m_|apply n_|apply o_|refine p_ (fun _=>?_) (fun _=>?_))<;>(conv=>whnf)))
        all_goals first
          | exact⟨k+1,q,by omega,[(60,26)],rfl,rfl,⟨.inl rfl,⟨rfl,rfl,rfl,rfl,by rw[hsn,List.map_append];rfl⟩,.inl rfl,.inl rfl,PLe.int (by omega),trivial⟩,⟨rfl,rfl,rfl⟩,trivial⟩
          | (exfalso;omega)
          | skip
      · rw[if_neg hz,List.append_nil] at hsn
        ((conv=>whnf);repeat' ((first|(with_reducible first|apply a_|apply b_|apply c_)|((with_reducible first|apply d_|apply e_|apply f_|apply g_);focus first|omega|(simp only[q_]<;>omega))|((with_reducible first|apply i_|apply h_);focus first|omega|(simp only[q_]<;>omega))|((with_reducible apply h_);focus first|decide|kernel_rfl)|refine s_ (by decide) ?_|refine t_ (by decide) ?_|(first|refine Idx.mapI (f:=rowC) k rfl q ?_|refine Idx.mapI (l:=l[k]) c rfl hck ?_)|with_reducible first|apply l_|apply m_|apply n_|apply o_|refine p_ (fun _=>?_) (fun _=>?_))<;>(conv=>whnf)))
        all_goals first
          | exact⟨k+1,q,by omega,[(60,60)],rfl,rfl,⟨.inl rfl,⟨rfl,rfl,rfl,rfl,by rw[hsn]⟩,.inl rfl,.inl rfl,PLe.int (by omega),trivial⟩,⟨rfl,rfl,rfl⟩,trivial⟩
          | (exfalso;omega)
          | skip
    · have e:l.take k=l:=List.take_of_length_le (by omega)
      rw[e]
      ((conv=>whnf);repeat' ((first|(with_reducible first|apply a_|apply b_|apply c_)|((with_reducible first|apply d_|apply e_|apply f_|apply g_);focus first|omega|(simp only[q_]<;>omega))|((with_reducible first|apply i_|apply h_);focus first|omega|(simp only[q_]<;>omega))|((with_reducible apply h_);focus first|decide|kernel_rfl)|refine s_ (by decide) ?_|refine t_ (by decide) ?_|with_reducible first|apply l_|apply m_|apply n_|apply o_|refine p_ (fun _=>?_) (fun _=>?_))<;>(conv=>whnf)))
      all_goals first|exact Ret.mk rfl | (exfalso;omega)
def sumF (l:List ValueD):ValueD×Int:=if l.any (fun v=>decide (v.Kind≠1)) then (noV,7) else if (WholeP.total (l.map ValueD.N)).2≠0∨l.length=0 then (noV,(WholeP.total (l.map ValueD.N)).2) else (⟨1,(WholeP.total (l.map ValueD.N)).1,[]⟩,0)
theorem p_sum (l:List ValueD) (h40:l.length≤1000) (hN:∀v∈l,WholeP.In64 v.N):Pure Tryz.prog 96 [slV 3 ValueD.c l] (.tup [vV (sumF l).1,pInt .i64 (sumF l).2]):=by
  have pw:=p_wsum (l.map ValueD.N) (fun x hx=>by obtain⟨v,hv,rfl⟩:=List.mem_map.1 hx;exact hN v hv)
  refine pure_of Tryz.func96 (by rfl) rfl (by kernel_rfl) (by rfl) ?_
  unfold sumF
  ((conv=>whnf);repeat' ((first|(with_reducible first|apply a_|apply b_|apply c_)|((with_reducible first|apply d_|apply e_|apply f_|apply g_);focus first|omega|(simp only[q_]<;>omega))|((with_reducible first|apply i_|apply h_);focus first|omega|(simp only[q_]<;>omega))|((with_reducible apply h_);focus first|decide|kernel_rfl)|refine s_ (by decide) ?_|refine t_ (by decide) ?_|with_reducible first|apply l_|apply m_|apply n_|apply o_|refine p_ (fun _=>?_) (fun _=>?_))<;>(conv=>whnf)))
  refine LoopC.mk Nat (fun k=>[(0,slV 3 ValueD.c l),(2,.d (.ptr 2 0)),(4,.d (.app 60 2 1 (((l.take k).map ValueD.N).map iC))),(9,slV 3 ValueD.c l),(10,pInt .i64 l.length),(11,pInt .i64 (k:Int))]) (fun _=>[(2,.box TV (noV.c.map D.c)),(60,.tail 2 1)]) [2,60] (fun k=>k≤l.length∧∀v∈l.take k,v.Kind=1) (fun k=>l.length - k) 0 ⟨Nat.zero_le _,by simp⟩ ?start ?round
  case start=>refine⟨[(2,2)],?_,?_,?_,?_⟩<;>repeat' (first|exact rfl|exact trivial|exact Or.inl rfl|exact PLe.int (by simp) | exact Nat.zero_lt_succ _|refine And.intro ?_ ?_)
  case round=>
    rintro k ⟨hk,hz⟩
    have hk:k≤l.length:=hk
    have hz:∀v∈l.take k,v.Kind=1:=hz
    by_cases q:k<l.length
    · by_cases h1:l[k].Kind≠1
      · rw[if_pos (List.any_eq_true.2 ⟨l[k],List.getElem_mem q,decide_eq_true h1⟩)]
        ((conv=>whnf);repeat' ((first|(with_reducible first|apply a_|apply b_|apply c_)|((with_reducible first|apply d_|apply e_|apply f_|apply g_);focus first|omega|(simp only[q_]<;>omega))|((with_reducible first|apply i_|apply h_);focus first|omega|(simp only[q_]<;>omega))|((with_reducible apply h_);focus first|decide|kernel_rfl)|refine s_ (by decide) ?_|refine t_ (by decide) ?_|(refine Idx.mapI k rfl q ?_)|with_reducible first|apply l_|apply m_|apply n_|apply o_|refine p_ (fun _=>?_) (fun _=>?_))<;>(conv=>whnf)))
        all_goals first
          | exact Ret.eq rfl
          | (exfalso;omega)
          | skip
      · have h1:l[k].Kind=1:=Decidable.of_not_not h1
        have hall:∀v∈l.take (k+1),v.Kind=1:=by
          intro v hv
          rw[take_snoc q] at hv
          rcases List.mem_append.1 hv with hv | hv
          · exact hz v hv
          · rw[List.mem_singleton.1 hv];exact h1
        ((conv=>whnf);repeat' ((first|(with_reducible first|apply a_|apply b_|apply c_)|((with_reducible first|apply d_|apply e_|apply f_|apply g_);focus first|omega|(simp only[q_]<;>omega))|((with_reducible first|apply i_|apply h_);focus first|omega|(simp only[q_]<;>omega))|((with_reducible apply h_);focus first|decide|kernel_rfl)|refine s_ (by decide) ?_|refine t_ (by decide) ?_|(refine Idx.mapI k rfl q ?_)|(refine Need.by 8 rfl (by simp only[List.length_map,List.length_take,List.length_singleton];omega) ?_)|with_reducible first|apply l_|apply m_|apply n_|apply o_|refine p_ (fun _=>?_) (fun _=>?_))<;>(conv=>whnf)))
        all_goals first
          | (refine⟨k+1,⟨q,hall⟩,by omega,[(2,2),(60,23)],?_,?_,?_,?_⟩<;>repeat' (first|exact rfl|exact trivial|exact Or.inl rfl|exact PLe.int (by omega) | exact (by rw[take_snoc q,List.map_append,List.map_append];rfl) | refine And.intro ?_ ?_))
          | (exfalso;omega)
          | skip
    · have e:l.take k=l:=List.take_of_length_le (by omega)
      rw[e] at hz ⊢
      have hany:¬(l.any (fun v=>decide (v.Kind≠1))=true):=by
        intro h
        obtain⟨v,hv,hd⟩:=List.any_eq_true.1 h
        exact of_decide_eq_true hd (hz v hv)
      rw[if_neg hany]
      by_cases h2:(WholeP.total (l.map ValueD.N)).2≠0∨l.length=0
      · rw[if_pos h2]
        ((conv=>whnf);repeat' ((first|(with_reducible first|apply a_|apply b_|apply c_)|((with_reducible first|apply d_|apply e_|apply f_|apply g_);focus first|omega|(simp only[q_]<;>omega))|((with_reducible first|apply i_|apply h_);focus first|omega|(simp only[q_]<;>omega))|((with_reducible apply h_);focus first|decide|kernel_rfl)|refine s_ (by decide) ?_|refine t_ (by decide) ?_|refine r_ pw rfl ?_|with_reducible first|apply l_|apply m_|apply n_|apply o_|refine p_ (fun _=>?_) (fun _=>?_))<;>(conv=>whnf)))
        all_goals first
          | exact Ret.eq rfl
          | (exfalso;omega)
          | skip
      · rw[if_neg h2]
        have h3:(WholeP.total (l.map ValueD.N)).2=0:=by omega
        rw[h3] at pw
        ((conv=>whnf);repeat' ((first|(with_reducible first|apply a_|apply b_|apply c_)|((with_reducible first|apply d_|apply e_|apply f_|apply g_);focus first|omega|(simp only[q_]<;>omega))|((with_reducible first|apply i_|apply h_);focus first|omega|(simp only[q_]<;>omega))|((with_reducible apply h_);focus first|decide|kernel_rfl)|refine s_ (by decide) ?_|refine t_ (by decide) ?_|refine r_ pw rfl ?_|with_reducible first|apply l_|apply m_|apply n_|apply o_|refine p_ (fun _=>?_) (fun _=>?_))<;>(conv=>whnf)))
        all_goals first
          | exact Ret.eq rfl
          | (exfalso;omega)
          | skip
theorem p_tell_count (l:List RowT) (col:Int) (hc:col<0):Pure Tryz.prog 74 [rwsV l,aV ⟨1,col⟩] (.tup [vV ⟨1,(l.length:Int),[]⟩,pInt .i64 0]):=by
  have hml:(l.map rowC).length=l.length:=List.length_map _
  refine pure_of Tryz.func74 (by rfl) rfl (by kernel_rfl) (by rfl) ?_
  ((conv=>whnf);repeat' ((first|(with_reducible first|apply a_|apply b_|apply c_)|((with_reducible first|apply d_|apply e_|apply f_|apply g_);focus first|omega|(simp only[q_]<;>omega))|((with_reducible first|apply i_|apply h_);focus first|omega|(simp only[q_]<;>omega))|((with_reducible apply h_);focus first|decide|kernel_rfl)|refine s_ (by decide) ?_|refine t_ (by decide) ?_|with_reducible first|apply l_|apply m_|apply n_|apply o_|refine p_ (fun _=>?_) (fun _=>?_))<;>(conv=>whnf)))
  all_goals first
    | exact Ret.eq (by rw[hml];rfl)
    | exact Ret.eq rfl
    | (exfalso;omega)
    | skip
theorem p_tell_sum (l:List RowT) (c:Nat) (h0:0<l.length) (h40:l.length≤40) (hc:∀r∈l,c<r.length∧r.length≤8) (hN:∀r∈l,∀v∈r,WholeP.In64 v.N) :
    Pure Tryz.prog 74 [rwsV l,aV ⟨2,(c:Int)⟩] (.tup [vV (sumF (colF l c)).1,pInt .i64 (sumF (colF l c)).2]):=by
  have hml:(l.map rowC).length=l.length:=List.length_map _
  have pc:=p_column l c h40 hc
  have ps:=p_sum (colF l c) (by have:=colF_len l c;omega) (fun v hv=>by
    unfold colF at hv
    obtain⟨r,hr,rfl⟩:=List.mem_map.1 (List.mem_filter.1 hv).1
    have hcr:=(hc r hr).1
    rw[List.getElem?_eq_getElem hcr,Option.getD_some]
    exact hN r hr _ (List.getElem_mem hcr))
  refine pure_of Tryz.func74 (by rfl) rfl (by kernel_rfl) (by rfl) ?_
  ((conv=>whnf);repeat' ((first|(with_reducible first|apply a_|apply b_|apply c_)|((with_reducible first|apply d_|apply e_|apply f_|apply g_);focus first|omega|(simp only[q_]<;>omega))|((with_reducible first|apply i_|apply h_);focus first|omega|(simp only[q_]<;>omega))|((with_reducible apply h_);focus first|decide|kernel_rfl)|refine s_ (by decide) ?_|refine t_ (by decide) ?_|refine r_ pc rfl ?_|refine r_ ps rfl ?_|with_reducible first|apply l_|apply m_|apply n_|apply o_|refine p_ (fun _=>?_) (fun _=>?_))<;>(conv=>whnf)))
  all_goals first
    | exact Ret.eq rfl
    | (exfalso;omega)
    | skip
theorem p_grouping_ok (l:List RowT) (hr:∀r∈l,r.length≤8) (by_:List Int) (aggs:List AggD) (h8:by_.length+aggs.length≤8) (hk:∀a∈aggs,1≤a.Kind∧a.Kind≤4) (hp:placesF l by_=0) (hq:∀a∈aggs,(a.Kind≠1∨a.Col≠-1)→placesF l [a.Col]=0) :
    Pure Tryz.prog 72 [rwsV l,slV 1 iC by_,slV 2 AggD.c aggs] (pInt .i64 0):=by
  have hr':∀r∈l,r.length≤140737488355328:=fun r h=>by have:=hr r h;omega
  have pp:=p_places l hr' by_ (by omega)
  rw[hp] at pp
  have hmb:(by_.map iC).length=by_.length:=List.length_map _
  have hma:(aggs.map AggD.c).length=aggs.length:=List.length_map _
  refine pure_of Tryz.func72 (by rfl) rfl (by kernel_rfl) (by rfl) ?_
  ((conv=>whnf);repeat' ((first|(with_reducible first|apply a_|apply b_|apply c_)|((with_reducible first|apply d_|apply e_|apply f_|apply g_);focus first|omega|(simp only[q_]<;>omega))|((with_reducible first|apply i_|apply h_);focus first|omega|(simp only[q_]<;>omega))|((with_reducible apply h_);focus first|decide|kernel_rfl)|refine s_ (by decide) ?_|refine t_ (by decide) ?_|with_reducible first|apply l_|apply m_|apply n_|apply o_|refine p_ (fun _=>?_) (fun _=>?_))<;>(conv=>whnf)))
  refine LoopC.mk Nat (fun k=>[(0,rwsV l),(1,slV 1 iC by_),(2,slV 2 AggD.c aggs),(23,slV 2 AggD.c aggs),(24,pInt .i64 aggs.length),(25,pInt .i64 (k:Int))]) (fun _=>[]) [] (fun k=>k≤aggs.length) (fun k=>aggs.length - k) 0 (Nat.zero_le _) ?start ?round
  case start=>exact⟨[],rfl,rfl,⟨.inl rfl,.inl rfl,.inl rfl,.inl rfl,PLe.int (by simp),.inl rfl,trivial⟩,trivial⟩
  case round=>
    intro k hk0
    have hk0:k≤aggs.length:=hk0
    by_cases q:k<aggs.length
    · obtain⟨h1,h4⟩:=hk _ (List.getElem_mem q)
      ((conv=>whnf);repeat' ((first|(with_reducible first|apply a_|apply b_|apply c_)|((with_reducible first|apply d_|apply e_|apply f_|apply g_);focus first|omega|(simp only[q_]<;>omega))|((with_reducible first|apply i_|apply h_);focus first|omega|(simp only[q_]<;>omega))|((with_reducible apply h_);focus first|decide|kernel_rfl)|refine s_ (by decide) ?_|refine t_ (by decide) ?_|(refine Idx.mapI k rfl q ?_)|with_reducible first|apply l_|apply m_|apply n_|apply o_|refine p_ (fun _=>?_) (fun _=>?_))<;>(conv=>whnf)))
      all_goals first
        | exact⟨k+1,q,by omega,[],rfl,rfl,⟨.inl rfl,.inl rfl,.inl rfl,.inl rfl,.inl rfl,PLe.int (by omega),trivial⟩,trivial⟩
        | (exfalso;omega)
        | skip
    · ((conv=>whnf);repeat' ((first|(with_reducible first|apply a_|apply b_|apply c_)|((with_reducible first|apply d_|apply e_|apply f_|apply g_);focus first|omega|(simp only[q_]<;>omega))|((with_reducible first|apply i_|apply h_);focus first|omega|(simp only[q_]<;>omega))|((with_reducible apply h_);focus first|decide|kernel_rfl)|refine s_ (by decide) ?_|refine t_ (by decide) ?_|refine r_ pp rfl ?_|with_reducible first|apply l_|apply m_|apply n_|apply o_|refine p_ (fun _=>?_) (fun _=>?_))<;>(conv=>whnf)))
      refine LoopC.mk Nat (fun k=>[(0,rwsV l),(9,pInt .i64 0),(41,slV 2 AggD.c aggs),(42,pInt .i64 aggs.length),(43,pInt .i64 (k:Int))]) (fun _=>[]) [] (fun k=>k≤aggs.length) (fun k=>aggs.length - k) 0 (Nat.zero_le _) ?start2 ?round2
      case start2=>exact⟨[],rfl,rfl,⟨.inl rfl,.inl rfl,.inl rfl,PLe.int (by simp),.inl rfl,trivial⟩,trivial⟩
      case round2=>
        intro k hk0
        have hk0:k≤aggs.length:=hk0
        by_cases q:k<aggs.length
        · have hqk:=hq _ (List.getElem_mem q)
          by_cases hx:aggs[k].Kind≠1∨aggs[k].Col≠-1
          · have pq:=p_places l hr' [aggs[k].Col] (by simp)
            rw[hqk hx] at pq
            ((conv=>whnf);repeat' ((first|(with_reducible first|apply a_|apply b_|apply c_)|((with_reducible first|apply d_|apply e_|apply f_|apply g_);focus first|omega|(simp only[q_]<;>omega))|((with_reducible first|apply i_|apply h_);focus first|omega|(simp only[q_]<;>omega))|((with_reducible apply h_);focus first|decide|kernel_rfl)|refine s_ (by decide) ?_|refine t_ (by decide) ?_|(refine Idx.mapI k rfl q ?_)|refine r_ pq rfl ?_|with_reducible first|apply l_|apply m_|apply n_|apply o_|refine p_ (fun _=>?_) (fun _=>?_))<;>(conv=>whnf)))
            all_goals first
              | exact⟨k+1,q,by omega,[],rfl,rfl,⟨.inl rfl,.inl rfl,.inl rfl,.inl rfl,PLe.int (by omega),trivial⟩,trivial⟩
              | (exfalso;omega)
              | skip
          · ((conv=>whnf);repeat' ((first|(with_reducible first|apply a_|apply b_|apply c_)|((with_reducible first|apply d_|apply e_|apply f_|apply g_);focus first|omega|(simp only[q_]<;>omega))|((with_reducible first|apply i_|apply h_);focus first|omega|(simp only[q_]<;>omega))|((with_reducible apply h_);focus first|decide|kernel_rfl)|refine s_ (by decide) ?_|refine t_ (by decide) ?_|(refine Idx.mapI k rfl q ?_)|with_reducible first|apply l_|apply m_|apply n_|apply o_|refine p_ (fun _=>?_) (fun _=>?_))<;>(conv=>whnf)))
            all_goals first
              | exact⟨k+1,q,by omega,[],rfl,rfl,⟨.inl rfl,.inl rfl,.inl rfl,.inl rfl,PLe.int (by omega),trivial⟩,trivial⟩
              | (exfalso;omega)
              | skip
        · ((conv=>whnf);repeat' ((first|(with_reducible first|apply a_|apply b_|apply c_)|((with_reducible first|apply d_|apply e_|apply f_|apply g_);focus first|omega|(simp only[q_]<;>omega))|((with_reducible first|apply i_|apply h_);focus first|omega|(simp only[q_]<;>omega))|((with_reducible apply h_);focus first|decide|kernel_rfl)|refine s_ (by decide) ?_|refine t_ (by decide) ?_|with_reducible first|apply l_|apply m_|apply n_|apply o_|refine p_ (fun _=>?_) (fun _=>?_))<;>(conv=>whnf)))
          all_goals first|exact Ret.int rfl | (exfalso;omega)
abbrev grpH (y:ValueD) (l:List RowT):Rf:=[(151,.darr TPA 1 [[.ptr 150 0]]),(150,.box TP [.app 162 TV 3 [y.c],.app 163 TES 1 (l.map rowC)]),(162,.tail TV 3),(163,.tail TES 1)]
def grpE (aggs:List AggD) (row:List (List C)):Nat→List (Nat×PV)
  | 0=>[(2,slV 2 AggD.c aggs),(10,.d (.c (.v (.slice none 0 0)))),(32,.d (.arr 151 TPA 1 0 1)),(33,pInt .i64 1),(34,pInt .i64 0)]
  | _+1=>[(10,.d (.app 161 TES 1 [[.sl 3 row]])),(33,pInt .i64 1),(34,pInt .i64 1)]
def grpHk (y:ValueD) (l:List RowT):Nat→Rf
  | 0=>grpH y l
  | _+1=>[(161,.tail TES 1)]
set_option maxHeartbeats 1000000 in
theorem p_Group1 (l:List RowT) (c:Nat) (y:ValueD) (aggs:List AggD) (tells:List ValueD) (hl:0<l.length) (hchk:rowsChk l=0) (hy:∀r∈l,r.length≤8∧(r.map ValueD.c)[((c:Nat):Int).toNat]? = some y.c)
    (pg:Pure Tryz.prog 72 [rwsV l,slV 1 iC [(c:Int)],slV 2 AggD.c aggs] (pInt .i64 0)) (hn:aggs.length≤8) (htl:tells.length=aggs.length)
    (pt:∀(k:Nat) (h:k<aggs.length) (h2:k<tells.length),Pure Tryz.prog 74 [rwsV l,aV aggs[k]] (.tup [vV tells[k],pInt .i64 0])) :
    Pure Tryz.prog 49 [rwsV l,slV 1 iC [(c:Int)],slV 2 AggD.c aggs] (.tup [rwsV [y::tells],pInt .i64 0]):=by
  have hml:(l.map rowC).length=l.length:=List.length_map _
  have hma:(aggs.map AggD.c).length=aggs.length:=List.length_map _
  have pc:=p_bagcheck l
  rw[hchk] at pc
  obtain⟨h40,h8⟩:=rowsChk_ok.1 hchk
  have ps:=s_parts l c y hl h40 hy
  refine pure_of Tryz.func49 (by rfl) rfl (by kernel_rfl) (by rfl) ?_
  ((conv=>whnf);repeat' ((first|(with_reducible first|apply a_|apply b_|apply c_)|((with_reducible first|apply d_|apply e_|apply f_|apply g_);focus first|omega|(simp only[q_]<;>omega))|((with_reducible first|apply i_|apply h_);focus first|omega|(simp only[q_]<;>omega))|((with_reducible apply h_);focus first|decide|kernel_rfl)|refine s_ (by decide) ?_|refine t_ (by decide) ?_|refine r_ pc rfl ?_|refine r_ pg rfl ?_|(refine CallP.ret [(NK,151),(NK1,150),(NK2,162),(FK2,163)] _ _ _ _ _ _ _ ps rfl rfl rfl rfl trivial ?_)|with_reducible first|apply l_|apply m_|apply n_|apply o_|refine p_ (fun _=>?_) (fun _=>?_))<;>(conv=>whnf)))
  refine LoopC.mk Nat (fun k=>grpE aggs ((y::tells).map ValueD.c) k) (fun k=>grpHk y l k) [151,150,162,163,161] (fun k=>k≤1) (fun k=>1 - k) 0 (Nat.zero_le _) ?start ?round
  case start=>refine⟨[(151,151),(150,150),(162,162),(163,163)],?_,?_,?_,?_⟩<;>repeat' (first|exact rfl|exact trivial|exact Or.inl rfl|refine And.intro ?_ ?_)
  case round=>
    intro k hk
    have hk:k≤1:=hk
    obtain rfl | rfl:k=0∨k=1:=by omega
    · ((conv=>whnf);repeat' ((first|(with_reducible first|apply a_|apply b_|apply c_)|((with_reducible first|apply d_|apply e_|apply f_|apply g_);focus first|omega|(simp only[q_]<;>omega))|((with_reducible first|apply i_|apply h_);focus first|omega|(simp only[q_]<;>omega))|((with_reducible apply h_);focus first|decide|kernel_rfl)|refine s_ (by decide) ?_|refine t_ (by decide) ?_|(refine Row.mk [.ptr 150 0] rfl ?_)|with_reducible first|apply l_|apply m_|apply n_|apply o_|refine p_ (fun _=>?_) (fun _=>?_))<;>(conv=>whnf)))
      refine LoopC.mk Nat (fun j=>[(10,.d (.c (.v (.slice none 0 0)))),(12,.d (.ptr 150 0)),(13,.d (.app 160 TV 3 ((y::tells.take j).map ValueD.c))),(33,pInt .i64 1),(34,pInt .i64 0),(42,slV 2 AggD.c aggs),(43,pInt .i64 aggs.length),(44,pInt .i64 (j:Int))]) (fun _=>[(150,.box TP [.c (.sl 3 [y.c]),.c (.sl 1 (l.map rowC))]),(160,.tail TV 3)]) [150,160] (fun j=>j≤aggs.length) (fun j=>aggs.length - j) 0 (Nat.zero_le _) ?start2 ?round2
      case start2=>refine⟨[(150,150),(160,162)],?_,?_,?_,?_⟩<;>repeat' (first|exact rfl|exact trivial|exact Or.inl rfl|exact PLe.int (by simp) | refine And.intro ?_ ?_)
      case round2=>
        intro j hj
        have hj:j≤aggs.length:=hj
        by_cases q:j<aggs.length
        · have q2:j<tells.length:=by omega
          have pj:=pt j q q2
          ((conv=>whnf);repeat' ((first|(with_reducible first|apply a_|apply b_|apply c_)|((with_reducible first|apply d_|apply e_|apply f_|apply g_);focus first|omega|(simp only[q_]<;>omega))|((with_reducible first|apply i_|apply h_);focus first|omega|(simp only[q_]<;>omega))|((with_reducible apply h_);focus first|decide|kernel_rfl)|refine s_ (by decide) ?_|refine t_ (by decide) ?_|(refine Idx.mapI j rfl q ?_)|refine r_ pj rfl ?_|(refine Need.by 32 rfl (by simp only[List.length_map,List.length_cons,List.length_take,List.length_nil];omega) ?_)|with_reducible first|apply l_|apply m_|apply n_|apply o_|refine p_ (fun _=>?_) (fun _=>?_))<;>(conv=>whnf)))
          all_goals first
            | (refine⟨j+1,q,by omega,[(150,150),(160,63)],?_,?_,?_,?_⟩<;>repeat' (first|exact rfl|exact trivial|exact Or.inl rfl|exact PLe.int (by omega) | exact (by rw[take_snoc q2,← List.cons_append,List.map_append];rfl) | refine And.intro ?_ ?_))
            | (exfalso;omega)
            | skip
        · have e:tells.take j=tells:=List.take_of_length_le (by omega)
          rw[e]
          ((conv=>whnf);repeat' ((first|(with_reducible first|apply a_|apply b_|apply c_)|((with_reducible first|apply d_|apply e_|apply f_|apply g_);focus first|omega|(simp only[q_]<;>omega))|((with_reducible first|apply i_|apply h_);focus first|omega|(simp only[q_]<;>omega))|((with_reducible apply h_);focus first|decide|kernel_rfl)|refine s_ (by decide) ?_|refine t_ (by decide) ?_|(refine Need.by 24 rfl (by simp) ?_)|with_reducible first|apply l_|apply m_|apply n_|apply o_|refine p_ (fun _=>?_) (fun _=>?_))<;>(conv=>whnf)))
          all_goals first
            | (refine⟨1,by decide,by decide,[(161,68)],?_,?_,?_,?_⟩<;>repeat' (first|exact rfl|exact trivial|exact Or.inl rfl|exact PLe.int (by simp) | refine And.intro ?_ ?_))
            | (exfalso;omega)
            | skip
    · ((conv=>whnf);repeat' ((first|(with_reducible first|apply a_|apply b_|apply c_)|((with_reducible first|apply d_|apply e_|apply f_|apply g_);focus first|omega|(simp only[q_]<;>omega))|((with_reducible first|apply i_|apply h_);focus first|omega|(simp only[q_]<;>omega))|((with_reducible apply h_);focus first|decide|kernel_rfl)|refine s_ (by decide) ?_|refine t_ (by decide) ?_|with_reducible first|apply l_|apply m_|apply n_|apply o_|refine p_ (fun _=>?_) (fun _=>?_))<;>(conv=>whnf)))
      all_goals first
        | exact Ret.eq rfl
        | exact Ret.mk rfl
        | skip
end
section
open Go.RowKit K
set_option maxRecDepth 100000
set_option maxRecDepth 100000
def insRev (f:RowT→RowT→Int) (x:RowT):List RowT→List RowT
  | []=>[x]
  | y::ys=>if f x y<0 then y::insRev f x ys else x::y::ys
def isrt (f:RowT→RowT→Int) (l:List RowT):List RowT:=(l.foldl (fun r x=>insRev f x r) []).reverse
theorem insRev_split {f:RowT→RowT→Int} {x:RowT}:∀(b c:List RowT),(∀y∈b,f x y<0)→(∀y ys,c=y::ys→¬f x y<0)→insRev f x (b++c)=b++x::c
  | [],[],_,_=>rfl
  | [],y::ys,_,h=>by
    show insRev f x (y::ys)=_
    rw[insRev,if_neg (h y ys rfl)];rfl
  | y::b,c,hb,h=>by
    rw[List.cons_append,insRev,if_pos (hb y List.mem_cons_self),insRev_split b c (fun z hz=>hb z (List.mem_cons_of_mem _ hz)) h];rfl
theorem isrt_snoc {f:RowT→RowT→Int} (l:List RowT) (x:RowT) (fr bk:List RowT) (h:isrt f l=fr++bk) (hb:∀y∈bk,f x y<0) (hf:∀y ys,fr=ys++[y]→¬f x y<0):isrt f (l++[x])=fr++x::bk:=by
  unfold isrt at h ⊢
  rw[List.foldl_append]
  have e:l.foldl (fun r x=>insRev f x r) []=bk.reverse++fr.reverse:=by
    rw[← List.reverse_reverse (l.foldl _ _),h,List.reverse_append]
  show (insRev f x (l.foldl (fun r x=>insRev f x r) [])).reverse=_
  rw[e,insRev_split _ _ (fun y hy=>hb y (List.mem_reverse.1 hy)) (fun y ys hy=>hf y ys.reverse (by rw[← List.reverse_reverse fr,hy,List.reverse_cons]))]
  simp
theorem insRev_len {f:RowT→RowT→Int} {x:RowT}:∀l:List RowT,(insRev f x l).length=l.length+1
  | []=>rfl
  | y::ys=>by
    rw[insRev]
    split
    · rw[List.length_cons,insRev_len ys,List.length_cons]
    · rfl
theorem isrt_len {f:RowT→RowT→Int} (l:List RowT):(isrt f l).length=l.length:=by
  unfold isrt
  rw[List.length_reverse]
  have:∀(l r:List RowT),(l.foldl (fun r x=>insRev f x r) r).length=r.length+l.length:=by
    intro l
    induction l with
    | nil=>intro r;rfl
    | cons x l ih=>intro r;rw[List.foldl_cons,ih,insRev_len,List.length_cons];omega
  rw[this];simp
theorem swap_set {α:Type}:∀(A B:List α) (x y:α),((A++y::x::B).set (A.length+1) y).set A.length x=A++x::y::B
  | [],B,x,y=>rfl
  | a::A,B,x,y=>by
    show a::((A++y::x::B).set (A.length+1) y).set A.length x=a::(A++x::y::B)
    rw[swap_set A B x y]
theorem insRev_mem {f:RowT→RowT→Int} {x y:RowT}:∀{l:List RowT},y∈insRev f x l→y=x∨y∈l
  | [],h=>by rw[insRev,List.mem_singleton] at h;exact .inl h
  | z::l,h=>by
    rw[insRev] at h
    split at h
    · rcases List.mem_cons.1 h with h | h
      · exact .inr (by rw[h];exact List.mem_cons_self)
      · exact (insRev_mem h).imp id fun q=>List.mem_cons_of_mem _ q
    · rcases List.mem_cons.1 h with h | h
      · exact .inl h
      · exact .inr h
theorem isrt_mem {f:RowT→RowT→Int} {l:List RowT} {y:RowT} (h:y∈isrt f l):y∈l:=by
  unfold isrt at h
  rw[List.mem_reverse] at h
  have:∀(l r:List RowT),y∈l.foldl (fun r x=>insRev f x r) r→y∈r∨y∈l:=by
    intro l
    induction l with
    | nil=>intro r h;exact .inl h
    | cons x l ih=>
      intro r h
      rcases ih _ h with h | h
      · rcases insRev_mem h with h | h
        · exact .inr (by rw[h];exact List.mem_cons_self)
        · exact .inl h
      · exact .inr (List.mem_cons_of_mem _ h)
  rcases this l [] h with h | h
  · cases h
  · exact h
theorem ins_start {f:RowT→RowT→Int} (l:List RowT) (a:Nat):l.take a++isrt f ((l.drop a).take (a+1 - a))++l.drop (a+1)=l:=by
  rw[show a+1 - a=1 by omega]
  by_cases h:a<l.length
  · rw[List.drop_eq_getElem_cons h]
    show l.take a++[l[a]]++l.drop (a+1)=l
    rw[List.append_assoc,List.singleton_append,← List.drop_eq_getElem_cons h,List.take_append_drop]
  · rw[List.drop_of_length_le (by omega),List.drop_of_length_le (by omega),List.take_of_length_le (by omega)]
    show l++[]++[]=l
    simp
abbrev tRowI:Nat:=49
abbrev keysF (keys:List KeyD):D:=.clo 71 [.c (.sl 2 (keys.map KeyD.c))] []
theorem s_insort (keys:List KeyD) (hk:keys.length≤1000) (l:List RowT) (hl:l.length≤1000) (hc:∀k∈keys,∀r∈l,0≤k.Col∧k.Col<r.length) (a b:Nat) (hab:a≤b) (hb:b≤l.length) (R:List RowT) (hR:R=l.take a++isrt (ordK keys) ((l.drop a).take (b - a))++l.drop b):CallS Tryz.prog 109 [.d (.arr FK tRowI 1 0 l.length),pInt .i64 a,pInt .i64 b,.d (keysF keys)] [] [(FK,.arr tRowI 1 (l.map rowC))] (.tup []) [(FK,.arr tRowI 1 (R.map rowC))]:=by
  refine callS_of Tryz.func109 (by rfl) rfl (by kernel_rfl) (by rfl) [FK] rfl ?_
  ((conv=>whnf);repeat' ((first|(with_reducible first|apply a_|apply b_|apply c_)|((with_reducible first|apply d_|apply e_|apply f_|apply g_);focus first|omega|(simp only[q_]<;>omega))|((with_reducible first|apply i_|apply h_);focus first|omega|(simp only[q_]<;>omega))|((with_reducible apply h_);focus first|decide|kernel_rfl)|refine s_ (by decide) ?_|refine t_ (by decide) ?_|with_reducible first|apply l_|apply m_|apply n_|apply o_|refine p_ (fun _=>?_) (fun _=>?_))<;>(conv=>whnf)))
  refine LoopC.mk Nat (fun i=>[(0,.d (.arr FK tRowI 1 0 l.length)),(1,pInt .i64 a),(2,pInt .i64 b),(3,.d (keysF keys)),(8,pInt .i64 (i:Int))]) (fun i=>[(FK,.arr tRowI 1 ((l.take a++isrt (ordK keys) ((l.drop a).take (i - a))++l.drop i).map rowC))]) [FK] (fun i=>a≤i∧i≤max b (a+1)) (fun i=>b+1 - i) (a+1) ⟨by omega,by omega⟩ ?start ?round
  case start=>
    refine⟨[(FK,FK)],rfl,rfl,?_,?_⟩<;>repeat' (first|exact rfl|exact trivial|exact Or.inl rfl|refine And.intro ?_ ?_)
    · show _=(l.take a++isrt (ordK keys) ((l.drop a).take (a+1 - a))++l.drop (a+1)).map rowC
      rw[ins_start]
  case round=>
    rintro i ⟨i1,i2⟩
    have i1:a+1≤i∨a≤i:=.inr i1
    have i2:i≤max b (a+1):=i2
    have i3:a≤i:=by omega
    by_cases q:i<b
    · have hil:i<l.length:=by omega
      obtain⟨x,hx⟩:∃x,x=l[i]:=⟨_,rfl⟩
      have hdx:l.drop i=x::l.drop (i+1):=by rw[hx];exact List.drop_eq_getElem_cons hil
      have hsl:(isrt (ordK keys) ((l.drop a).take (i - a))).length=i - a:=by rw[isrt_len,List.length_take,List.length_drop];omega
      ((conv=>whnf);repeat' ((first|(with_reducible first|apply a_|apply b_|apply c_)|((with_reducible first|apply d_|apply e_|apply f_|apply g_);focus first|omega|(simp only[q_]<;>omega))|((with_reducible first|apply i_|apply h_);focus first|omega|(simp only[q_]<;>omega))|((with_reducible apply h_);focus first|decide|kernel_rfl)|refine s_ (by decide) ?_|refine t_ (by decide) ?_|with_reducible first|apply l_|apply m_|apply n_|apply o_|refine p_ (fun _=>?_) (fun _=>?_))<;>(conv=>whnf)))
      refine LoopC.mk (List RowT×List RowT) (fun s=>[(0,.d (.arr FK tRowI 1 0 l.length)),(1,pInt .i64 a),(2,pInt .i64 b),(3,.d (keysF keys)),(8,pInt .i64 (i:Int)),(9,pInt .i64 ((a+s.1.length:Nat):Int))]) (fun s=>[(FK,.arr tRowI 1 ((l.take a++s.1++x::s.2++l.drop (i+1)).map rowC))]) [FK] (fun s=>s.1++s.2=isrt (ordK keys) ((l.drop a).take (i - a))∧∀y∈s.2,ordK keys x y<0) (fun s=>s.1.length) (isrt (ordK keys) ((l.drop a).take (i - a)),[]) ⟨List.append_nil _,fun y hy=>absurd hy List.not_mem_nil⟩ ?start2 ?round2
      case start2=>
        refine⟨[(FK,FK)],rfl,rfl,?_,?_⟩<;>repeat' (first|exact rfl|exact trivial|exact Or.inl rfl|refine And.intro ?_ ?_)
        · exact PLe.int (show (i:Int)=((a+(isrt (ordK keys) ((l.drop a).take (i - a))).length:Nat):Int) by omega)
        · show _=(l.take a++isrt (ordK keys) ((l.drop a).take (i - a))++[x]++l.drop (i+1)).map rowC
          rw[hdx,List.append_assoc (l.take a++_),List.singleton_append]
      case round2=>
        rintro⟨fr,bk⟩ ⟨h1,h2⟩
        have h1:fr++bk=isrt (ordK keys) ((l.drop a).take (i - a)):=h1
        have h2:∀y∈bk,ordK keys x y<0:=h2
        have hlen:=congrArg List.length h1
        rw[List.length_append,hsl] at hlen
        have hta:(l.take a).length=a:=by rw[List.length_take];omega
        have htk:(l.drop a).take (i+1 - a)=(l.drop a).take (i - a)++[x]:=by
          have h3:i - a<(l.drop a).length:=by rw[List.length_drop];omega
          have e:=take_snoc h3
          rw[show i - a+1=i+1 - a by omega] at e
          rw[e]
          congr 2
          apply Option.some.inj
          rw[← List.getElem?_eq_getElem,List.getElem?_drop,hx,← List.getElem?_eq_getElem]
          congr 1;omega
        have hxm:x∈l:=by rw[hx];exact List.getElem_mem hil
        rcases List.eq_nil_or_concat fr with rfl | ⟨fr0,y,efr⟩
        · have hin:isrt (ordK keys) ((l.drop a).take (i+1 - a))=[]++x::bk:=by
            rw[htk]
            exact isrt_snoc _ x [] bk h1.symm h2 fun y ys e=>by simp at e
          ((conv=>whnf);repeat' ((first|(with_reducible first|apply a_|apply b_|apply c_)|((with_reducible first|apply d_|apply e_|apply f_|apply g_);focus first|omega|(simp only[q_]<;>omega))|((with_reducible first|apply i_|apply h_);focus first|omega|(simp only[q_]<;>omega))|((with_reducible apply h_);focus first|decide|kernel_rfl)|refine s_ (by decide) ?_|refine t_ (by decide) ?_|with_reducible first|apply l_|apply m_|apply n_|apply o_|refine p_ (fun _=>?_) (fun _=>?_))<;>(conv=>whnf)))
          all_goals first
            | (exfalso;omega)
            | skip
          refine⟨i+1,⟨by show a≤i+1;omega,by show i+1≤max b (a+1);omega⟩,by show b+1 - (i+1)<b+1 - i;omega,[(FK,FK)],rfl,rfl,?_,?_⟩<;>repeat' (first|exact rfl|exact trivial|exact Or.inl rfl|refine And.intro ?_ ?_)
          all_goals first|exact PLe.int (show (i:Int)+1=((i+1:Nat):Int) by omega) | skip
          show _=(l.take a++isrt (ordK keys) ((l.drop a).take (i+1 - a))++l.drop (i+1)).map rowC
          rw[hin,List.append_nil,List.nil_append]
        · rw[List.concat_eq_append] at efr
          subst efr
          have hym:y∈l:=by
            have:y∈isrt (ordK keys) ((l.drop a).take (i - a)):=by rw[← h1];simp
            exact List.mem_of_mem_drop (List.mem_of_mem_take (isrt_mem this))
          have po:=p_order keys hk x y fun k hk=>⟨(hc k hk x hxm).1,(hc k hk x hxm).2,(hc k hk y hym).2⟩
          have hfl:(fr0++[y]).length=fr0.length+1:=by simp
          have hM:l.take a++(fr0++[y])++x::bk++l.drop (i+1)=(l.take a++fr0)++y::x::(bk++l.drop (i+1)):=by simp
          have hA:(l.take a++fr0).length=a+fr0.length:=by rw[List.length_append,hta]
          have hml:((l.take a++(fr0++[y])++x::bk++l.drop (i+1)).map rowC).length=l.length:=by
            have hlen:=hlen
            rw[hfl] at hlen
            simp only[List.length_map,hM,List.length_append,hta,List.length_cons,List.length_drop]
            omega
          have j0:0+(((a+(fr0++[y]).length:Nat):Int)).toNat=(l.take a++fr0).length+1:=by omega
          have j1:0+(((a+(fr0++[y]).length:Nat):Int) - 1).toNat=(l.take a++fr0).length:=by omega
          have r0:((l.take a++(fr0++[y])++x::bk++l.drop (i+1)).map rowC)[0+(((a+(fr0++[y]).length:Nat):Int)).toNat]? = some (rowC x):=by
            rw[j0,hM,List.getElem?_map,List.getElem?_append_right (by omega)];simp
          have r1:((l.take a++(fr0++[y])++x::bk++l.drop (i+1)).map rowC)[0+(((a+(fr0++[y]).length:Nat):Int) - 1).toNat]? = some (rowC y):=by
            rw[j1,hM,List.getElem?_map,List.getElem?_append_right (by omega)];simp
          have r2:∀v,(((l.take a++(fr0++[y])++x::bk++l.drop (i+1)).map rowC).set (0+(((a+(fr0++[y]).length:Nat):Int)).toNat) v)[0+(((a+(fr0++[y]).length:Nat):Int) - 1).toNat]? = some (rowC y):=fun v=>by
            rw[List.getElem?_set_ne (by omega)];exact r1
          by_cases ho:ordK keys x y<0
          · ((conv=>whnf);repeat' ((first|(with_reducible first|apply a_|apply b_|apply c_)|((with_reducible first|apply d_|apply e_|apply f_|apply g_);focus first|omega|(simp only[q_]<;>omega))|((with_reducible first|apply i_|apply h_);focus first|omega|(simp only[q_]<;>omega))|((with_reducible apply h_);focus first|decide|kernel_rfl)|refine s_ (by decide) ?_|refine t_ (by decide) ?_|(first|refine Row.mk _ r0 ?_|refine Row.mk _ r1 ?_|refine Row.mk _ (r2 _) ?_)|refine r_ po rfl ?_|with_reducible first|apply l_|apply m_|apply n_|apply o_|refine p_ (fun _=>?_) (fun _=>?_))<;>(conv=>whnf)))
            all_goals first
              | (exfalso;omega)
              | skip
            refine⟨(fr0,y::bk),⟨by rw[← h1];simp,fun z hz=>?_⟩,by show fr0.length<(fr0++[y]).length;omega,[(FK,FK)],rfl,rfl,?_,?_⟩
            · rcases List.mem_cons.1 hz with rfl | hz
              · exact ho
              · exact h2 z hz
            all_goals repeat' (first|exact rfl|exact trivial|exact Or.inl rfl|refine And.intro ?_ ?_)
            all_goals first|exact PLe.int (show ((a+(fr0++[y]).length:Nat):Int) - 1=((a+fr0.length:Nat):Int) by omega) | skip
            show ((((l.take a++(fr0++[y])++x::bk++l.drop (i+1)).map rowC).set (0+(((a+(fr0++[y]).length:Nat):Int)).toNat) (rowC y)).set (0+(((a+(fr0++[y]).length:Nat):Int) - 1).toNat) (rowC x))=(l.take a++fr0++x::(y::bk)++l.drop (i+1)).map rowC
            rw[j0,j1,hM,List.map_append,List.map_cons,List.map_cons]
            have:=swap_set ((l.take a++fr0).map rowC) ((bk++l.drop (i+1)).map rowC) (rowC x) (rowC y)
            rw[List.length_map] at this
            rw[this];simp
          · have hin:isrt (ordK keys) ((l.drop a).take (i+1 - a))=(fr0++[y])++x::bk:=by
              rw[htk]
              refine isrt_snoc _ x _ bk h1.symm h2 fun z zs e=>?_
              have e2:y=z:=by
                have:=congrArg List.getLast? e
                simpa using this
              rw[← e2];exact ho
            ((conv=>whnf);repeat' ((first|(with_reducible first|apply a_|apply b_|apply c_)|((with_reducible first|apply d_|apply e_|apply f_|apply g_);focus first|omega|(simp only[q_]<;>omega))|((with_reducible first|apply i_|apply h_);focus first|omega|(simp only[q_]<;>omega))|((with_reducible apply h_);focus first|decide|kernel_rfl)|refine s_ (by decide) ?_|refine t_ (by decide) ?_|(first|refine Row.mk _ r0 ?_|refine Row.mk _ r1 ?_)|refine r_ po rfl ?_|with_reducible first|apply l_|apply m_|apply n_|apply o_|refine p_ (fun _=>?_) (fun _=>?_))<;>(conv=>whnf)))
            all_goals first
              | (exfalso;omega)
              | skip
            refine⟨i+1,⟨by show a≤i+1;omega,by show i+1≤max b (a+1);omega⟩,by show b+1 - (i+1)<b+1 - i;omega,[(FK,FK)],rfl,rfl,?_,?_⟩<;>repeat' (first|exact rfl|exact trivial|exact Or.inl rfl|refine And.intro ?_ ?_)
            all_goals first|exact PLe.int (show (i:Int)+1=((i+1:Nat):Int) by omega) | skip
            show _=(l.take a++isrt (ordK keys) ((l.drop a).take (i+1 - a))++l.drop (i+1)).map rowC
            rw[hin];simp
    · have hR2:l.take a++isrt (ordK keys) ((l.drop a).take (i - a))++l.drop i=R:=by
        rcases Nat.lt_or_ge a b with h | h
        · rw[hR,show i=b by omega]
        · have hb2:b=a:=by omega
          have hi:i=a∨i=a+1:=by omega
          rw[hR,hb2,Nat.sub_self]
          rcases hi with rfl | rfl
          · rw[Nat.sub_self]
          · rw[ins_start]
            show l=l.take a++[]++l.drop a
            rw[List.append_nil,List.take_append_drop]
      ((conv=>whnf);repeat' ((first|(with_reducible first|apply a_|apply b_|apply c_)|((with_reducible first|apply d_|apply e_|apply f_|apply g_);focus first|omega|(simp only[q_]<;>omega))|((with_reducible first|apply i_|apply h_);focus first|omega|(simp only[q_]<;>omega))|((with_reducible apply h_);focus first|decide|kernel_rfl)|refine s_ (by decide) ?_|refine t_ (by decide) ?_|with_reducible first|apply l_|apply m_|apply n_|apply o_|refine p_ (fun _=>?_) (fun _=>?_))<;>(conv=>whnf)))
      refine RetS.mk [(FK,FK)] [FK] rfl rfl ?_ ?_<;>repeat' (first|exact rfl|exact trivial|exact Or.inl rfl|refine And.intro ?_ ?_)
      all_goals first | (show _=R.map rowC;rw[hR2]) | skip
end
section
open Go.RowKit K
set_option maxRecDepth 100000
set_option maxRecDepth 100000
theorem s_stable20 (keys:List KeyD) (hk:keys.length≤1000) (l:List RowT) (hl:l.length<20) (hc:∀k∈keys,∀r∈l,0≤k.Col∧k.Col<r.length):CallS Tryz.prog 90 [.d (.arr FK tRowI 1 0 l.length),pInt .i64 (l.length:Int),.d (keysF keys)] [] [(FK,.arr tRowI 1 (l.map rowC))] (.tup []) [(FK,.arr tRowI 1 ((isrt (ordK keys) l).map rowC))]:=by
  have ps:=s_insort keys hk l (by omega) hc 0 l.length (Nat.zero_le _) (Nat.le_refl _) (isrt (ordK keys) l) (by simp)
  refine callS_of Tryz.func90 (by rfl) rfl (by kernel_rfl) (by rfl) [FK] rfl ?_
  ((conv=>whnf);repeat' ((first|(with_reducible first|apply a_|apply b_|apply c_)|((with_reducible first|apply d_|apply e_|apply f_|apply g_);focus first|omega|(simp only[q_]<;>omega))|((with_reducible first|apply i_|apply h_);focus first|omega|(simp only[q_]<;>omega))|((with_reducible apply h_);focus first|decide|kernel_rfl)|refine s_ (by decide) ?_|refine t_ (by decide) ?_|with_reducible first|apply l_|apply m_|apply n_|apply o_|refine p_ (fun _=>?_) (fun _=>?_))<;>(conv=>whnf)))
  refine LoopC.mk Unit (fun _=>[(0,.d (.arr FK tRowI 1 0 l.length)),(1,pInt .i64 (l.length:Int)),(2,.d (keysF keys)),(6,pInt .i64 20),(7,pInt .i64 0),(8,pInt .i64 20)]) (fun _=>[(FK,.arr tRowI 1 (l.map rowC))]) [FK] (fun _=>True) (fun _=>0) () trivial ?start ?round
  case start=>refine⟨[(FK,FK)],rfl,rfl,?_,?_⟩<;>repeat' (first|exact rfl|exact trivial|exact Or.inl rfl|refine And.intro ?_ ?_)
  case round=>
    intro _ _
    ((conv=>whnf);repeat' ((first|(with_reducible first|apply a_|apply b_|apply c_)|((with_reducible first|apply d_|apply e_|apply f_|apply g_);focus first|omega|(simp only[q_]<;>omega))|((with_reducible first|apply i_|apply h_);focus first|omega|(simp only[q_]<;>omega))|((with_reducible apply h_);focus first|decide|kernel_rfl)|refine s_ (by decide) ?_|refine t_ (by decide) ?_|(refine CallP.ret [(FK,FK)] _ _ _ _ _ _ _ ps rfl rfl rfl rfl ⟨rfl,trivial⟩ ?_)|with_reducible first|apply l_|apply m_|apply n_|apply o_|refine p_ (fun _=>?_) (fun _=>?_))<;>(conv=>whnf)))
    all_goals first
      | (exfalso;omega)
      | skip
    refine LoopC.mk Unit (fun _=>[(0,.d (.arr FK tRowI 1 0 l.length)),(1,pInt .i64 (l.length:Int)),(2,.d (keysF keys)),(6,pInt .i64 20)]) (fun _=>[(FK,.arr tRowI 1 ((isrt (ordK keys) l).map rowC))]) [FK] (fun _=>True) (fun _=>0) () trivial ?start2 ?round2
    case start2=>refine⟨[(FK,FK)],rfl,rfl,?_,?_⟩<;>repeat' (first|exact rfl|exact trivial|exact Or.inl rfl|refine And.intro ?_ ?_)
    case round2=>
      intro _ _
      ((conv=>whnf);repeat' ((first|(with_reducible first|apply a_|apply b_|apply c_)|((with_reducible first|apply d_|apply e_|apply f_|apply g_);focus first|omega|(simp only[q_]<;>omega))|((with_reducible first|apply i_|apply h_);focus first|omega|(simp only[q_]<;>omega))|((with_reducible apply h_);focus first|decide|kernel_rfl)|refine s_ (by decide) ?_|refine t_ (by decide) ?_|with_reducible first|apply l_|apply m_|apply n_|apply o_|refine p_ (fun _=>?_) (fun _=>?_))<;>(conv=>whnf)))
      all_goals first
        | (exfalso;omega)
        | (refine RetS.mk [(FK,FK)] [FK] rfl rfl ?_ ?_<;>repeat' (first|exact rfl|exact trivial|exact Or.inl rfl|refine And.intro ?_ ?_))
theorem s_sortstable20 (keys:List KeyD) (hk:keys.length≤1000) (l:List RowT) (hl:l.length<20) (hc:∀k∈keys,∀r∈l,0≤k.Col∧k.Col<r.length):CallS Tryz.prog 70 [.d (.arr FK tRowI 1 0 l.length),.d (keysF keys)] [] [(FK,.arr tRowI 1 (l.map rowC))] (.tup []) [(FK,.arr tRowI 1 ((isrt (ordK keys) l).map rowC))]:=by
  have ps:=s_stable20 keys hk l hl hc
  refine callS_of Tryz.func70 (by rfl) rfl (by kernel_rfl) (by rfl) [FK] rfl ?_
  ((conv=>whnf);repeat' ((first|(with_reducible first|apply a_|apply b_|apply c_)|((with_reducible first|apply d_|apply e_|apply f_|apply g_);focus first|omega|(simp only[q_]<;>omega))|((with_reducible first|apply i_|apply h_);focus first|omega|(simp only[q_]<;>omega))|((with_reducible apply h_);focus first|decide|kernel_rfl)|refine s_ (by decide) ?_|refine t_ (by decide) ?_|(refine CallP.ret [(FK,FK)] _ _ _ _ _ _ _ ps rfl rfl rfl rfl ⟨rfl,trivial⟩ ?_)|with_reducible first|apply l_|apply m_|apply n_|apply o_|refine p_ (fun _=>?_) (fun _=>?_))<;>(conv=>whnf)))
  refine RetS.mk [(FK,FK)] [FK] rfl rfl ?_ ?_<;>repeat' (first|exact rfl|exact trivial|exact Or.inl rfl|refine And.intro ?_ ?_)
theorem s_own_rows (l:List RowT) (hl:l.length≤1000) (hr:∀r∈l,r.length≤1000):CallS Tryz.prog 58 [rwsV l] [] [] (.d (.arr NK tRowI 1 0 l.length)) [(NK,.arr tRowI 1 (l.map rowC))]:=by
  refine callS_of Tryz.func58 (by rfl) rfl (by kernel_rfl) (by rfl) [] rfl ?_
  ((conv=>whnf);repeat' ((first|(with_reducible first|apply a_|apply b_|apply c_)|((with_reducible first|apply d_|apply e_|apply f_|apply g_);focus first|omega|(simp only[q_]<;>omega))|((with_reducible first|apply i_|apply h_);focus first|omega|(simp only[q_]<;>omega))|((with_reducible apply h_);focus first|decide|kernel_rfl)|refine s_ (by decide) ?_|refine t_ (by decide) ?_|with_reducible first|apply l_|apply m_|apply n_|apply o_|refine p_ (fun _=>?_) (fun _=>?_))<;>(conv=>whnf)))
  refine LoopC.mk Nat (fun k=>[(3,.d (.arr 60 tRowI 1 0 k)),(6,rwsV l),(7,pInt .i64 l.length),(8,pInt .i64 (k:Int))]) (fun k=>[(60,.arr tRowI 1 ((l.take k).map rowC))]) [60] (fun k=>k≤l.length) (fun k=>l.length - k) 0 (Nat.zero_le _) ?start ?round
  case start=>
    refine⟨[],rfl,rfl,?_,?_⟩<;>repeat' (first|exact rfl|exact trivial|exact Or.inl rfl|exact Nat.zero_lt_succ _|refine And.intro ?_ ?_)
    all_goals exact PLe.int (by simp)
  case round=>
    intro k hk
    have hk:k≤l.length:=hk
    by_cases q:k<l.length
    · have pc:=p_cloneV l[k] (by have:=hr _ (List.getElem_mem q);omega)
      have hml:((l.take k).map rowC).length=k:=by rw[List.length_map,List.length_take];omega
      ((conv=>whnf);repeat' ((first|(with_reducible first|apply a_|apply b_|apply c_)|((with_reducible first|apply d_|apply e_|apply f_|apply g_);focus first|omega|(simp only[q_]<;>omega))|((with_reducible first|apply i_|apply h_);focus first|omega|(simp only[q_]<;>omega))|((with_reducible apply h_);focus first|decide|kernel_rfl)|refine s_ (by decide) ?_|refine t_ (by decide) ?_|(refine Idx.mapI (f:=rowC) k rfl q ?_)|refine r_ pc rfl ?_|(refine Need.by 24 rfl (by simp only[List.length_singleton];omega) ?_)|with_reducible first|apply l_|apply m_|apply n_|apply o_|refine p_ (fun _=>?_) (fun _=>?_))<;>(conv=>whnf)))
      all_goals first
        | (exfalso;omega)
        | skip
      refine⟨k+1,by show k+1≤_;omega,by show l.length - (k+1)<l.length - k;omega,[(60,16)],rfl,rfl,?_,?_⟩<;>repeat' (first|exact rfl|exact trivial|exact Or.inl rfl|refine And.intro ?_ ?_)
      all_goals first|exact PLe.int (by simp) | exact PLe.int (by omega) | skip
      rw[List.take_of_length_le (by omega),take_snoc q,List.map_append];rfl
    · have e:k=l.length:=by omega
      subst e
      ((conv=>whnf);repeat' ((first|(with_reducible first|apply a_|apply b_|apply c_)|((with_reducible first|apply d_|apply e_|apply f_|apply g_);focus first|omega|(simp only[q_]<;>omega))|((with_reducible first|apply i_|apply h_);focus first|omega|(simp only[q_]<;>omega))|((with_reducible apply h_);focus first|decide|kernel_rfl)|refine s_ (by decide) ?_|refine t_ (by decide) ?_|with_reducible first|apply l_|apply m_|apply n_|apply o_|refine p_ (fun _=>?_) (fun _=>?_))<;>(conv=>whnf)))
      refine RetS.mk [(NK,60)] [NK] rfl rfl ?_ ?_<;>repeat' (first|exact rfl|exact trivial|exact Or.inl rfl|refine And.intro ?_ ?_)
      all_goals first | (show _=l.map rowC;rw[List.take_length]) | skip
def keysBad (l:List RowT):List KeyD→Bool
  | []=>false
  | k::ks=>decide (placesF l [k.Col]≠0)||keysBad l ks
theorem places_one (l:List RowT) (c:Int):placesF l [c]=if 0<l.length∧(c<0∨(widthF l:Int)≤c) then 3 else 0:=rfl
def sortF (l:List RowT) (keys:List KeyD):List RowT×Int:=
  if rowsChk l≠0 then ([],rowsChk l) else if 8<keys.length then ([],2) else if keysBad l keys then ([],3) else (isrt (ordK keys) l,0)
theorem p_Sort20 (l:List RowT) (keys:List KeyD) (h20:rowsChk l=0→8<keys.length∨keysBad l keys=true∨l.length<20):Pure Tryz.prog 48 [rwsV l,slV 2 KeyD.c keys] (.tup [rwsV (sortF l keys).1,pInt .i64 (sortF l keys).2]):=by
  have pc:=p_bagcheck l
  have hkl:(keys.map KeyD.c).length=keys.length:=List.length_map _
  refine pure_of Tryz.func48 (by rfl) rfl (by kernel_rfl) (by rfl) ?_
  unfold sortF
  by_cases h1:rowsChk l=0
  · rw[if_neg (not_not_intro h1)]
    rw[h1] at pc
    obtain⟨h40,h8⟩:=rowsChk_ok.1 h1
    by_cases h2:8<keys.length
    · rw[if_pos h2]
      ((conv=>whnf);repeat' ((first|(with_reducible first|apply a_|apply b_|apply c_)|((with_reducible first|apply d_|apply e_|apply f_|apply g_);focus first|omega|(simp only[q_]<;>omega))|((with_reducible first|apply i_|apply h_);focus first|omega|(simp only[q_]<;>omega))|((with_reducible apply h_);focus first|decide|kernel_rfl)|refine s_ (by decide) ?_|refine t_ (by decide) ?_|refine r_ pc rfl ?_|with_reducible first|apply l_|apply m_|apply n_|apply o_|refine p_ (fun _=>?_) (fun _=>?_))<;>(conv=>whnf)))
      all_goals first|exact Ret.le ⟨.inr ⟨⟨1,rfl⟩,.inl rfl⟩,.inl rfl,rfl⟩ | (exfalso;omega)
    · rw[if_neg h2]
      ((conv=>whnf);repeat' ((first|(with_reducible first|apply a_|apply b_|apply c_)|((with_reducible first|apply d_|apply e_|apply f_|apply g_);focus first|omega|(simp only[q_]<;>omega))|((with_reducible first|apply i_|apply h_);focus first|omega|(simp only[q_]<;>omega))|((with_reducible apply h_);focus first|decide|kernel_rfl)|refine s_ (by decide) ?_|refine t_ (by decide) ?_|refine r_ pc rfl ?_|with_reducible first|apply l_|apply m_|apply n_|apply o_|refine p_ (fun _=>?_) (fun _=>?_))<;>(conv=>whnf)))
      refine LoopC.mk Nat (fun k=>[(0,rwsV l),(1,slV 2 KeyD.c keys),(19,slV 2 KeyD.c keys),(20,pInt .i64 keys.length),(21,pInt .i64 (k:Int))]) (fun _=>[]) [] (fun k=>k≤keys.length∧keysBad l keys=keysBad l (keys.drop k)∧∀x∈keys.take k,placesF l [x.Col]=0) (fun k=>keys.length - k) 0 ⟨Nat.zero_le _,by rw[List.drop_zero],by simp⟩ ?start ?round
      case start=>exact⟨[],rfl,rfl,⟨.inl rfl,.inl rfl,.inl rfl,PLe.int (by simp),.inl rfl,trivial⟩,trivial⟩
      case round=>
        rintro k ⟨hk,hz,hp⟩
        have hk:k≤keys.length:=hk
        have hz:keysBad l keys=keysBad l (keys.drop k):=hz
        have hp:∀x∈keys.take k,placesF l [x.Col]=0:=hp
        by_cases q:k<keys.length
        · rw[List.drop_eq_getElem_cons q,keysBad] at hz
          have pp:=p_places l (fun r hr=>by have:=(h8 r hr).1;omega) [keys[k].Col] (by simp)
          by_cases h:placesF l [keys[k].Col]=0
          · rw[h] at pp hz
            have hz:keysBad l keys=keysBad l (keys.drop (k+1)):=hz
            ((conv=>whnf);repeat' ((first|(with_reducible first|apply a_|apply b_|apply c_)|((with_reducible first|apply d_|apply e_|apply f_|apply g_);focus first|omega|(simp only[q_]<;>omega))|((with_reducible first|apply i_|apply h_);focus first|omega|(simp only[q_]<;>omega))|((with_reducible apply h_);focus first|decide|kernel_rfl)|refine s_ (by decide) ?_|refine t_ (by decide) ?_|(refine Idx.mapI (f:=KeyD.c) k rfl q ?_)|refine r_ pp rfl ?_|with_reducible first|apply l_|apply m_|apply n_|apply o_|refine p_ (fun _=>?_) (fun _=>?_))<;>(conv=>whnf)))
            all_goals first
              | (exfalso;omega)
              | skip
            refine⟨k+1,⟨by show k+1≤_;omega,hz,fun x hx=>?_⟩,by show keys.length - (k+1)<keys.length - k;omega,[],rfl,rfl,⟨.inl rfl,.inl rfl,.inl rfl,PLe.int (by simp),PLe.int (by omega),trivial⟩,trivial⟩
            rw[take_snoc q,List.mem_append,List.mem_singleton] at hx
            rcases hx with hx | rfl
            · exact hp x hx
            · exact h
          · have h3:placesF l [keys[k].Col]=3:=by
              rw[places_one] at h ⊢
              split at h
              · rename_i g;rw[if_pos g]
              · exact absurd rfl h
            rw[h3] at pp hz
            have hz:keysBad l keys=true:=hz
            rw[if_pos hz]
            ((conv=>whnf);repeat' ((first|(with_reducible first|apply a_|apply b_|apply c_)|((with_reducible first|apply d_|apply e_|apply f_|apply g_);focus first|omega|(simp only[q_]<;>omega))|((with_reducible first|apply i_|apply h_);focus first|omega|(simp only[q_]<;>omega))|((with_reducible apply h_);focus first|decide|kernel_rfl)|refine s_ (by decide) ?_|refine t_ (by decide) ?_|(refine Idx.mapI (f:=KeyD.c) k rfl q ?_)|refine r_ pp rfl ?_|with_reducible first|apply l_|apply m_|apply n_|apply o_|refine p_ (fun _=>?_) (fun _=>?_))<;>(conv=>whnf)))
            all_goals first|exact Ret.le ⟨.inr ⟨⟨1,rfl⟩,.inl rfl⟩,.inl rfl,rfl⟩ | (exfalso;omega)
        · have e1:keys.take k=keys:=List.take_of_length_le (by omega)
          rw[e1] at hp
          rw[List.drop_of_length_le (by omega)] at hz
          have hz:keysBad l keys=false:=hz
          rw[hz,if_neg (by decide)]
          have hl20:l.length<20:=by
            rcases h20 h1 with g | g | g
            · exact absurd g h2
            · rw[hz] at g;cases g
            · exact g
          have po:=s_own_rows l (by omega) fun r hr=>by have:=(h8 r hr).1;omega
          have ps:=s_sortstable20 keys (by omega) l hl20 fun k hk r hr=>by
            have:=hp k hk
            rw[places_one] at this
            have hlp:0<l.length:=List.length_pos_of_mem hr
            have hw:=(h8 r hr).2.1
            split at this
            · cases this
            · rename_i g
              constructor
              · apply Decidable.byContradiction;intro x;exact g ⟨hlp,.inl (by omega)⟩
              · apply Decidable.byContradiction;intro x;exact g ⟨hlp,.inr (by omega)⟩
          ((conv=>whnf);repeat' ((first|(with_reducible first|apply a_|apply b_|apply c_)|((with_reducible first|apply d_|apply e_|apply f_|apply g_);focus first|omega|(simp only[q_]<;>omega))|((with_reducible first|apply i_|apply h_);focus first|omega|(simp only[q_]<;>omega))|((with_reducible apply h_);focus first|decide|kernel_rfl)|refine s_ (by decide) ?_|refine t_ (by decide) ?_|(first|refine CallP.ret [(NK,35)] _ _ _ _ _ _ _ po rfl rfl rfl rfl trivial ?_|refine CallP.ret [(FK,35)] _ _ _ _ _ _ _ ps rfl rfl rfl rfl ⟨rfl,trivial⟩ ?_)|with_reducible first|apply l_|apply m_|apply n_|apply o_|refine p_ (fun _=>?_) (fun _=>?_))<;>(conv=>whnf)))
          all_goals first | (exfalso;omega) | skip
          refine Need.mk (by rw[List.length_map,isrt_len];omega) ?_
          ((conv=>whnf);repeat' ((first|(with_reducible first|apply a_|apply b_|apply c_)|((with_reducible first|apply d_|apply e_|apply f_|apply g_);focus first|omega|(simp only[q_]<;>omega))|((with_reducible first|apply i_|apply h_);focus first|omega|(simp only[q_]<;>omega))|((with_reducible apply h_);focus first|decide|kernel_rfl)|refine s_ (by decide) ?_|refine t_ (by decide) ?_|with_reducible first|apply l_|apply m_|apply n_|apply o_|refine p_ (fun _=>?_) (fun _=>?_))<;>(conv=>whnf)))
          refine Ret.eq ?_
          show PV.tup [PV.d (D.c (C.sl 1 (List.take _ (List.drop 0 _)))),_]=_
          rw[List.drop_zero,List.take_of_length_le (by rw[List.length_map,isrt_len];exact Nat.le_refl _)]
  · rw[if_pos h1]
    ((conv=>whnf);repeat' ((first|(with_reducible first|apply a_|apply b_|apply c_)|((with_reducible first|apply d_|apply e_|apply f_|apply g_);focus first|omega|(simp only[q_]<;>omega))|((with_reducible first|apply i_|apply h_);focus first|omega|(simp only[q_]<;>omega))|((with_reducible apply h_);focus first|decide|kernel_rfl)|refine s_ (by decide) ?_|refine t_ (by decide) ?_|refine r_ pc rfl ?_|with_reducible first|apply l_|apply m_|apply n_|apply o_|refine p_ (fun _=>?_) (fun _=>?_))<;>(conv=>whnf)))
    all_goals first|exact Ret.le ⟨.inr ⟨⟨1,rfl⟩,.inl rfl⟩,.inl rfl,rfl⟩ | (exfalso;omega)
end
section
set_option maxRecDepth 100000
def tP (a:Int):Int:=if a=0 then 0 else if a=2 then 2 else 1
def tAnd (a b:Int):Int:=min (tP a) (tP b)
def tOr (a b:Int):Int:=max (tP a) (tP b)
def tNot (a:Int):Int:=2 - tP a
def tOf (b:Bool):Int:=if b then 2 else 0
def tAll (l:List Int):Int:=l.foldl tAnd 2
def tAny (l:List Int):Int:=l.foldl tOr 0
abbrev IsT (a:Int):Prop:=a=0∨a=1∨a=2
theorem isT_of (b:Bool):IsT (tOf b):=by cases b<;>unfold tOf<;>simp[IsT]
theorem isT_p (a:Int):IsT (tP a):=by unfold tP IsT;(repeat' split)<;>simp
theorem isT_not (a:Int):IsT (tNot a):=by unfold tNot;rcases isT_p a with h | h | h<;>rw[h]<;>simp[IsT]
theorem isT_and (a b:Int):IsT (tAnd a b):=by unfold tAnd;rcases isT_p a with h | h | h<;>rcases isT_p b with k | k | k<;>rw[h,k]<;>simp[IsT]<;>decide
theorem isT_or (a b:Int):IsT (tOr a b):=by unfold tOr;rcases isT_p a with h | h | h<;>rcases isT_p b with k | k | k<;>rw[h,k]<;>simp[IsT]<;>decide
theorem isT_foldl {f:Int→Int→Int} (hf:∀a b,IsT (f a b)):∀(l:List Int) {z:Int},IsT z→IsT (l.foldl f z)
  | [],_,h=>h
  | x::l,z,_=>isT_foldl hf l (hf z x)
theorem isT_all (l:List Int):IsT (tAll l):=isT_foldl isT_and l (.inr (.inr rfl))
theorem isT_any (l:List Int):IsT (tAny l):=isT_foldl isT_or l (.inl rfl)
def rLess (a b:ValueD):Int:=if a.Kind=0∨b.Kind=0 then 1 else tOf (decide (vOrd a b<0))
def rSame (a b:ValueD):Int:=if a.Kind=0∨b.Kind=0 then 1 else tOf (decide (vOrd a b=0))
def rIn (v:ValueD) (l:List ValueD):Int:=tAny (l.map (rSame v))
def rBetween (v lo hi:ValueD):Int:=tAnd (tNot (rLess v lo)) (tNot (rLess hi v))
theorem isT_less (a b:ValueD):IsT (rLess a b):=by
  unfold rLess;split
  · simp[IsT]
  · exact isT_of _
theorem isT_same (a b:ValueD):IsT (rSame a b):=by
  unfold rSame;split
  · simp[IsT]
  · exact isT_of _
def tolV (t:Int):ValueD:=if t=2 then ⟨1,1,[]⟩ else if t=0 then ⟨1,0,[]⟩ else noV
def meaV (v:ValueD):Int×Int:=if v.Kind=0 then (1,0) else if v.Kind=1 then (tOf (decide (v.N≠0)),0) else (0,7)
abbrev isN (v:ValueD):Bool:=decide (v.Kind=0)
abbrev isTB (v:ValueD):Bool:=decide (v.Kind=2∨v.Kind=3)
abbrev isIB (v:ValueD):Bool:=decide (v.Kind=1∨v.Kind=3)
def numV (k:List ValueD):Bool×Int:=(k.any isN,if k.any isTB then 7 else 0)
def whoF (op a b:Int):Int×Int:=if op=5 then WholeP.fit (a+b) else if op=6 then WholeP.fit (a - b) else if op=7 then WholeP.fit (a*b) else if op=8 then WholeP.quo a b else if op=9 then WholeP.rem a b else WholeP.fit (-a)
def recV (op:Int) (k:List ValueD):ValueD×Int:=
  if k.any isTB then (noV,7) else if k.any isN then (noV,0) else
  if (whoF op (k.headD noV).N (k.getLastD noV).N).2≠0 then (noV,(whoF op (k.headD noV).N (k.getLastD noV).N).2) else (⟨1,(whoF op (k.headD noV).N (k.getLastD noV).N).1,[]⟩,0)
noncomputable def likV (k:List ValueD):Int×Int:=
  if k.any isIB then (0,7) else if k.any isN then (1,0) else (tOf (LikeP.matB (tx (k.getD 1 noV).S) (tx (k.getD 0 noV).S)),LikeP.matE (tx (k.getD 1 noV).S) (tx (k.getD 0 noV).S))
def joiV (op:Int) (k:List ValueD):Int×Int:=
  if k.any (fun v=>decide ((meaV v).2≠0)) then (0,7) else (if op=16 then tAll (k.map fun v=>(meaV v).1) else if op=17 then tAny (k.map fun v=>(meaV v).1) else tNot ((k.map fun v=>(meaV v).1).headD 0),0)
noncomputable def askV (op:Int) (k:List ValueD):Int×Int:=
  if op=10 then (rSame (k.getD 0 noV) (k.getD 1 noV),0)
  else if op=12 then (rLess (k.getD 0 noV) (k.getD 1 noV),0)
  else if op=14 then (rLess (k.getD 1 noV) (k.getD 0 noV),0)
  else if op=18 then (tOf (isN (k.getD 0 noV)),0)
  else if op=22 then (rIn (k.getD 0 noV) (k.drop 1),0)
  else if op=24 then (rBetween (k.getD 0 noV) (k.getD 1 noV) (k.getD 2 noV),0)
  else if op=20 then likV k
  else joiV op k
def negB (op:Int):Bool:=decide (op=11∨op=13∨op=15∨op=19∨op=21∨op=23∨op=25)
def couF (op:Int):Int:=if op=10∨op=18∨op=20∨op=22∨op=24 then op+1 else if op=11∨op=19∨op=21∨op=23∨op=25 then op - 1 else if 12≤op∧op≤15 then 27 - op else 0
abbrev Look:=List UInt8→Option ValueD
noncomputable def nodV (look:Look) (n:NodeD) (k:List ValueD):ValueD×Int:=
  if n.Op=1 then (n.V,0)
  else if n.Op=2 then (match look n.Name with
    | some v=>(v,0)
    | none=>(noV,5))
  else if n.Op=3∨(5≤n.Op∧n.Op≤9) then recV n.Op k
  else if (askV (if negB n.Op then couF n.Op else n.Op) k).2≠0 then (noV,(askV (if negB n.Op then couF n.Op else n.Op) k).2)
  else (tolV (if negB n.Op then tNot (askV (if negB n.Op then couF n.Op else n.Op) k).1 else (askV (if negB n.Op then couF n.Op else n.Op) k).1),0)
def askR (op:Int) (k:List ValueD):Int:=
  if op=10 then rSame (k.getD 0 noV) (k.getD 1 noV)
  else if op=11 then tNot (rSame (k.getD 0 noV) (k.getD 1 noV))
  else if op=12 then rLess (k.getD 0 noV) (k.getD 1 noV)
  else if op=13 then tNot (rLess (k.getD 1 noV) (k.getD 0 noV))
  else if op=14 then rLess (k.getD 1 noV) (k.getD 0 noV)
  else if op=15 then tNot (rLess (k.getD 0 noV) (k.getD 1 noV))
  else if op=18∨op=19 then tOf (isN (k.getD 0 noV)==decide (op=18))
  else if op=22 then rIn (k.getD 0 noV) (k.drop 1)
  else if op=23 then tNot (rIn (k.getD 0 noV) (k.drop 1))
  else if op=24 then rBetween (k.getD 0 noV) (k.getD 1 noV) (k.getD 2 noV)
  else tNot (rBetween (k.getD 0 noV) (k.getD 1 noV) (k.getD 2 noV))
noncomputable def nodR (look:Look) (n:NodeD) (k:List ValueD):ValueD×Int:=
  if n.Op=1 then (n.V,0)
  else if n.Op=2 then (match look n.Name with
    | some v=>(v,0)
    | none=>(noV,5))
  else if n.Op=3∨(5≤n.Op∧n.Op≤9) then recV n.Op k
  else if n.Op=20∨n.Op=21 then
    (if k.any isIB then (noV,7) else if k.any isN then (noV,0)
     else if LikeP.patE (tx (k.getD 1 noV).S)≠0 then (noV,LikeP.patE (tx (k.getD 1 noV).S))
     else (tolV (tOf (LikeP.matB (tx (k.getD 1 noV).S) (tx (k.getD 0 noV).S)==decide (n.Op=20))),0))
  else if n.Op=4∨n.Op=16∨n.Op=17 then
    (if k.any isTB then (noV,7)
     else (tolV (if n.Op=4 then tNot ((k.map fun v=>(meaV v).1).headD 0) else if n.Op=16 then tAll (k.map fun v=>(meaV v).1) else tAny (k.map fun v=>(meaV v).1)),0))
  else (tolV (askR n.Op k),0)
abbrev OkV (v:ValueD):Prop:=vChk v=0
theorem okV_kind {v:ValueD} (h:OkV v):0≤v.Kind∧v.Kind≤3∧v.S.length≤16:=by
  unfold OkV vChk at h
  split at h
  · cases h
  · split at h
    · cases h
    · split at h
      · cases h
      · omega
theorem tolV_ok (t:Int):OkV (tolV t):=by unfold tolV;(repeat' split)<;>decide
theorem noV_ok:OkV noV:=by decide
theorem mea_any {k:List ValueD} (h:∀v∈k,OkV v):k.any (fun v=>decide ((meaV v).2≠0))=k.any isTB:=by
  induction k with
  | nil=>rfl
  | cons v k ih=>
    rw[List.any_cons,List.any_cons,ih fun x hx=>h x (List.mem_cons_of_mem _ hx)]
    have hk:=okV_kind (h v (List.mem_cons_self ..))
    congr 1
    unfold meaV isTB
    by_cases h0:v.Kind=0
    · rw[if_pos h0];simp[h0]
    · rw[if_neg h0]
      by_cases h1:v.Kind=1
      · rw[if_pos h1];simp[h1]
      · rw[if_neg h1]
        have:v.Kind=2∨v.Kind=3:=by omega
        simp[this]
theorem tx_small {l:List UInt8} (h:l.length≤16):¬16<(tx l).size:=by rw[tx_size];omega
theorem tnot_of (b:Bool):tNot (tOf b)=tOf (!b):=by cases b<;>rfl
theorem matE_small {p s:ByteArray} (h:¬16<s.size):LikeP.matE p s=LikeP.patE p:=by
  unfold LikeP.matE
  rw[if_neg h]
  split
  · rfl
  · rename_i g
    exact (Decidable.of_not_not g).symm
theorem nod_eq (look:Look) {n:NodeD} {k:List ValueD} (hn:alF n=0) (hl:(k.length:Int)=n.Kids) (hk:∀v∈k,OkV v):nodR look n k=nodV look n k:=by
  obtain⟨h1,h2,h3,h4,h5,h6⟩:=alF_kids hn
  unfold nodR nodV
  by_cases g1:n.Op=1
  · rw[if_pos g1,if_pos g1]
  rw[if_neg g1,if_neg g1]
  by_cases g2:n.Op=2
  · rw[if_pos g2,if_pos g2]
  rw[if_neg g2,if_neg g2]
  by_cases g3:n.Op=3∨(5≤n.Op∧n.Op≤9)
  · rw[if_pos g3,if_pos g3]
  rw[if_neg g3,if_neg g3]
  have hj:=mea_any hk
  have hs0:¬16<(tx (k.getD 0 noV).S).size:=by
    refine tx_small ?_
    cases k with
    | nil=>decide
    | cons v k=>exact (okV_kind (hk v (List.mem_cons_self ..))).2.2
  have he:=matE_small (p:=tx (k.getD 1 noV).S) hs0
  have cases_:n.Op=4∨n.Op=10∨n.Op=11∨n.Op=12∨n.Op=13∨n.Op=14∨n.Op=15∨n.Op=16∨n.Op=17∨n.Op=18∨n.Op=19∨n.Op=20∨n.Op=21∨n.Op=22∨n.Op=23∨n.Op=24∨n.Op=25:=by omega
  rcases cases_ with e | e | e | e | e | e | e | e | e | e | e | e | e | e | e | e | e<;>rw[e]
  all_goals first
    | (simp[negB,couF,askV,askR,joiV,hj];done)
    | (have en:negB 4=false:=by decide
       have ea:askV 4 k=joiV 4 k:=by simp[askV]
       simp only[en,Bool.false_eq_true,if_false,ea]
       unfold joiV
       rw[hj]
       cases k.any isTB<;>simp
       done)
    | (have en:negB 16=false:=by decide
       have ea:askV 16 k=joiV 16 k:=by simp[askV]
       simp only[en,Bool.false_eq_true,if_false,ea]
       unfold joiV
       rw[hj]
       cases k.any isTB<;>simp
       done)
    | (have en:negB 17=false:=by decide
       have ea:askV 17 k=joiV 17 k:=by simp[askV]
       simp only[en,Bool.false_eq_true,if_false,ea]
       unfold joiV
       rw[hj]
       cases k.any isTB<;>simp
       done)
    | (have en:negB 20=false:=by decide
       have ea:askV 20 k=likV k:=by simp[askV]
       simp only[en,Bool.false_eq_true,if_false,ea]
       unfold likV
       rw[he]
       cases k.any isIB with
       | true=>simp
       | false=>
         cases k.any isN with
         | true=>simp[tolV]
         | false=>
           by_cases hp:LikeP.patE (tx (k.getD 1 noV).S)=0
           · simp only[hp];simp
           · simp[hp]
       done)
    | (have en:negB 19=true:=by decide
       have ec:couF 19=18:=by decide
       have ea:askV 18 k=(tOf (isN (k.getD 0 noV)),0):=by simp[askV]
       have er:askR 19 k=tOf (isN (k.getD 0 noV)==decide ((19:Int)=18)):=by simp[askR]
       simp only[en,ec,eq_self,if_true,ea,er,tnot_of]
       cases isN (k.getD 0 noV)<;>simp
       done)
    | (have en:negB 21=true:=by decide
       have ec:couF 21=20:=by decide
       have ea:askV 20 k=likV k:=by simp[askV]
       simp only[en,ec,eq_self,if_true,ea]
       unfold likV
       rw[he]
       cases k.any isIB with
       | true=>simp
       | false=>
         cases k.any isN with
         | true=>simp[tolV,tNot,tP]
         | false=>
           by_cases hp:LikeP.patE (tx (k.getD 1 noV).S)=0
           · simp only[hp];simp[tnot_of]
           · simp[hp,tnot_of]
       done)
end
end Go.Proofs.YtdgmbijjhifbeaaGreatDoor.Pm
