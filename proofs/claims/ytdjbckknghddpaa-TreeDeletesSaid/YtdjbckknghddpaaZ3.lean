/- Parts of the proof, one behind the other: PmNew PmReg. Conditions: none beyond what each theorem says. -/
import Derived.Lib.Overlaps
import Derived.Laws.StructEq
import Derived.Laws.IdiomStrings
import Derived.Laws.Externs
import Derived.Laws.MakeOwn
import Derived.Lib.Builder
import Derived.Lib.UnsafeStr
import Derived.Lib.AppendStr
import Derived.MapKept
import Derived.Still
import Derived.Test.YtdjbckknghddpaaZ2
open List (all_cons all_eq_true any_eq_true append_assoc append_toArray cons_append drop_drop drop_left' drop_of_length_le drop_zero eq_nil_of_length_eq_zero flatten_append flatten_cons length_append length_drop length_map length_replicate length_take map_cons map_nil map_take mem_append mem_append_left mem_append_right mem_cons mem_cons_of_mem mem_cons_self mem_map mem_of_mem_drop mem_of_mem_take mem_singleton nil_append singleton_append size_toArray take_append_drop take_left take_left' take_of_length_le)
open Nat (add_assoc add_comm add_mul add_zero beq_refl eq_of_beq_eq_true le_mul_of_pos_right le_of_ble_eq_true le_of_eq le_trans lt_min lt_or_gt_of_ne lt_trichotomy min_comm mul_le_mul_right mul_one not_lt_zero pos_of_ne_zero sub_self zero_add zero_lt_one zero_mul)
open Int (eq_ofNat_of_zero_le toNat_natCast)
open Option (getD_some isSome_iff_exists map_some)
set_option linter.unusedVariables false
set_option linter.unusedSimpArgs false
section
namespace Go.Proofs.Ytdjbckknghddpaa.Pm
open Go.RowKit
section
variable {P:Program}
theorem eqFs_out {eq:TypeId->PV->PV->(Bool->Prop)->Prop} {d:Nat}
  (heq:∀t x y (K:Bool->Prop),eq t x y K->∃b,K b/\∀(n:Nat) (σ:Sg) (F:Fzn) (w:World) (u v:Value),d<=n->PRep σ F w x u->PRep σ F w y v->(Op.equalIn n t u v).run P w=.ok b w) {l m:List D} :
  ∀{fs:List Field} {K:Bool->Prop},eqFs P eq l m fs K->∃b,K b/\∀(n:Nat) (σ:Sg) (F:Fzn) (w:World) (us vs:List Value),d<=n->DsRep σ F w l us->DsRep σ F w m vs->(Op.eqFields n us.toArray vs.toArray fs).run P w=.ok b w
 | [],K,h=>⟨true,h,fun n σ F w us vs _ _ _=>by simp[Op.eqFields]⟩|f::fs,K,h=>by
  unfold eqFs at h;obtain⟨hn,h⟩:=h;obtain⟨a,h,ha⟩:=partP_out h;obtain⟨b,h,hb⟩:=partP_out h;obtain⟨r,h,hr⟩:=heq _ _ _ _ h;obtain⟨r',h,hr'⟩:=eqFs_out heq h;refine⟨_,h,fun n σ F w us vs hd hu hv=>?_⟩;obtain⟨z1,g1,g2⟩:=ha σ F w us hu;obtain⟨z2,g3,g4⟩:=hb σ F w vs hv;have g5:=hr n σ F w z1 z2 hd g2 g4;have g6:=hr' n σ F w us vs hd hu hv;unfold Op.eqFields;rw[if_pos hn];simp only[Sem.run_bind,g1,g3,g5,Result.andThen_ok];cases r with
  | true=>simp[g6]|false=>simp
theorem eqV_out:∀(d:Nat) (t:TypeId) (x y:PV) (K:Bool->Prop),eqV P d t x y K->∃b,K b/\∀(n:Nat) (σ:Sg) (F:Fzn) (w:World) (u v:Value),d<=n->PRep σ F w x u->PRep σ F w y v->(Op.equalIn n t u v).run P w=.ok b w
 | 0,t,x,y,K,h=>by unfold eqV at h;exact h.elim
 | d+1,t,x,y,K,h=>by
  unfold eqV at h;split at h
  ·rename_i k0 hu;split at h
   ·rename_i k a k' b;split at h
    ·rename_i hk;obtain rfl:=of_decide_eq_true hk;refine⟨_,h,fun n σ F w u v hd hx hy=>?_⟩;obtain⟨n,rfl⟩:∃q,n=q+1:=⟨n - 1,by omega⟩;rw[rep_v hx,rep_v hy,run_equalIn_int w n t k k0 a b hu]
     congr 1
    ·exact h.elim
   ·exact h.elim
  ·rename_i hu;split at h
   ·rename_i a b;refine⟨_,h,fun n σ F w u v hd hx hy=>?_⟩;obtain⟨n,rfl⟩:∃q,n=q+1:=⟨n - 1,by omega⟩;rw[rep_v hx,rep_v hy,run_equalIn_string w n t a b hu,toList_beq_dec]
   ·exact h.elim
  ·rename_i hu;split at h
   ·rename_i a b;refine⟨_,h,fun n σ F w u v hd hx hy=>?_⟩;obtain⟨n,rfl⟩:∃q,n=q+1:=⟨n - 1,by omega⟩;rw[rep_v hx,rep_v hy];exact Go.run_equalIn_bool w n t a b hu
   ·exact h.elim
  ·rename_i fs hu;split at h
   ·rename_i l m;obtain⟨hs,h⟩:=h;obtain⟨b,h,hb⟩:=eqFs_out (eqV_out d) h;refine⟨b,h,fun n σ F w u v hd hx hy=>?_⟩;obtain⟨n,rfl⟩:∃q,n=q+1:=⟨n - 1,by omega⟩;unfold PRep at hx hy;obtain⟨us,rfl,hx⟩:=hx;obtain⟨vs,rfl,hy⟩:=hy;have hf:P.fieldsOf t=fs:=by unfold Program.fieldsOf;rw[hu]
    rw[run_equalIn_agg w n t _ _ (by rw[hf];exact hu) hs,hf];exact hb n σ F w us vs (by omega) hx hy
   ·exact h.elim
  ·exact h.elim
theorem eqP_out {t:TypeId} {x y:PV} {K:Bool->Prop} (h:eqP P t x y K) :
  ∃b,K b/\∀(σ:Sg) (F:Fzn) (w:World) (u v:Value) (ox oy:Operand),PRep σ F w x u->PRep σ F w y v->
   (eqGuard .eql t ox oy u v).run P w=.ok () w/\(eqGuard .neq t ox oy u v).run P w=.ok () w/\(binOp .eql t u v).run P w=.ok (.bool b) w/\(binOp .neq t u v).run P w=.ok (.bool (!b)) w:=by
 unfold eqP at h;have pe:∀(t:TypeId) (u v:Value) (w:World) (b:Bool),binOp .eql t u v=(do pure (.bool (<- Op.equal t u v)))->binOp .neq t u v=(do pure (.bool (!(<- Op.equal t u v))))->(Op.equalIn 10000 t u v).run P w=.ok b w->
   (binOp .eql t u v).run P w=.ok (.bool b) w/\(binOp .neq t u v).run P w=.ok (.bool (!b)) w:=by
  intro t u v w b h1 h2 hb;have e:(Op.equal t u v).run P w=.ok b w:=hb;rw[h1,h2];constructor<;>simp[e]
 split at h
 ·rename_i l m;obtain⟨hg,h⟩:=h;obtain⟨b,h,hb⟩:=eqV_out _ _ _ _ _ h;refine⟨b,h,fun σ F w u v ox oy hx hy=>?_⟩;have e:=hb 10000 σ F w u v (by decide) hx hy;unfold PRep at hx hy;obtain⟨us,rfl,hx⟩:=hx;obtain⟨vs,rfl,hy⟩:=hy;exact⟨run_eqGuard_agg w .eql t ox oy _ _ hg,run_eqGuard_agg w .neq t ox oy _ _ hg,pe t _ _ w b rfl rfl e⟩
 ·rename_i k o;split at h
  ·rename_i te hu;refine⟨false,h,fun σ F w u v ox oy hx hy=>?_⟩;unfold PRep DRep at hx;obtain⟨g,n,_,rfl⟩:=hx;rw[rep_v hy];exact⟨by simp[eqGuard],by simp[eqGuard],pe t _ _ w _ rfl rfl ((show ∀d:Nat,(Op.equalIn (d+1) t _ _).run P w=.ok _ w from fun d=>by simp[Op.equalIn,run_underlying hu]) 9999)⟩
  ·exact h.elim
 ·split at h
  ·rename_i te hu;refine⟨true,h,fun σ F w u v ox oy hx hy=>?_⟩;rw[rep_v hx,rep_v hy];exact⟨by simp[eqGuard],by simp[eqGuard],pe t _ _ w _ rfl rfl ((show ∀d:Nat,(Op.equalIn (d+1) t _ _).run P w=.ok _ w from fun d=>by simp[Op.equalIn,run_underlying hu]) 9999)⟩
  ·exact h.elim
 ·rename_i k o k' o';split at h
  ·rename_i te hu;split at h
   ·rename_i i hi e1 e2;obtain rfl:=eq_of_beq_eq_true e1;obtain rfl:=eq_of_beq_eq_true e2;refine⟨true,h,fun σ F w u v ox oy hx hy=>?_⟩;unfold PRep DRep at hx hy;obtain⟨g,n,g1,rfl⟩:=hx;obtain⟨g',n',g2,rfl⟩:=hy;rw[g1] at g2;cases g2;refine⟨by simp[eqGuard],by simp[eqGuard],pe t _ _ w true rfl rfl ?_⟩;have hz:∀d:Nat,(Op.equalIn (d+1) t (.pointer (some ⟨g,o,none⟩)) (.pointer (some ⟨g,o,none⟩))).run P w=.ok true w:=fun d=>by
     simp[Op.equalIn,run_underlying hu,sizeOf,typeInfo,hi,run_sameAddr_same]
    exact hz 9999
   ·exact h.elim
  ·exact h.elim
 ·split at h
  ·rename_i a b c hu;refine⟨false,h,fun σ F w u v ox oy hx hy=>?_⟩;unfold PRep DRep at hx;obtain⟨us,vs,rfl,_⟩:=hx;rw[rep_v hy];exact⟨by simp[eqGuard],by simp[eqGuard],pe t _ _ w _ rfl rfl ((show ∀d:Nat,(Op.equalIn (d+1) t _ _).run P w=.ok _ w from fun d=>by simp[Op.equalIn,run_underlying hu]) 9999)⟩
  ·exact h.elim
 ·split at h
  ·rename_i a b c hu;refine⟨true,h,fun σ F w u v ox oy hx hy=>?_⟩;rw[rep_v hx,rep_v hy];exact⟨by simp[eqGuard],by simp[eqGuard],pe t _ _ w _ rfl rfl ((show ∀d:Nat,(Op.equalIn (d+1) t _ _).run P w=.ok _ w from fun d=>by simp[Op.equalIn,run_underlying hu]) 9999)⟩
  ·exact h.elim
 ·split at h
  ·rename_i a b c hu;refine⟨false,h,fun σ F w u v ox oy hx hy=>?_⟩;rw[rep_v hx,rep_v hy];exact⟨by simp[eqGuard],by simp[eqGuard],pe t _ _ w _ rfl rfl ((show ∀d:Nat,(Op.equalIn (d+1) t _ _).run P w=.ok _ w from fun d=>by simp[Op.equalIn,run_underlying hu]) 9999)⟩
  ·exact h.elim
 ·split at h
  ·rename_i te hu;have fin:∀(b:Bool),K b->(∀(σ:Sg) (F:Fzn) (w:World) (u:Value),PRep σ F w x u->∃a n cap,u=.slice a n cap/\b=a.isNone)->∃b,K b/\∀(σ:Sg) (F:Fzn) (w:World) (u v:Value) (ox oy:Operand),PRep σ F w x u->PRep σ F w (.d (.c (.v (.slice none 0 0)))) v->
     (eqGuard .eql t ox oy u v).run P w=.ok () w/\(eqGuard .neq t ox oy u v).run P w=.ok () w/\(binOp .eql t u v).run P w=.ok (.bool b) w/\(binOp .neq t u v).run P w=.ok (.bool (!b)) w:=by
    intro b hb hsl;refine⟨b,hb,fun σ F w u v ox oy hx hy=>?_⟩;obtain⟨a,n,cap,rfl,rfl⟩:=hsl σ F w u hx;rw[rep_v hy];refine⟨by simp[eqGuard],by simp[eqGuard],pe t _ _ w _ rfl rfl ((show ∀d:Nat,(Op.equalIn (d+1) t (.slice a n cap) (.slice none 0 0)).run P w=.ok a.isNone w from fun d=>?_) 9999)⟩;cases a<;>simp[Op.equalIn,run_underlying hu]
   unfold slNil at h;split at h
   ·rename_i sz l;obtain⟨hne,h⟩:=h;refine fin false h fun σ F w u hu'=>?_;obtain⟨a,cap,rfl,g1,g2,g3,g4⟩:=rows_val (.inl rfl) hu';rcases g4 with g4 | ⟨b,off,rfl,_⟩
    ·exact absurd g4 hne
    ·exact⟨_,_,_,rfl,rfl⟩
   ·rename_i k e sz l;obtain⟨hne,h⟩:=h;refine fin false h fun σ F w u hu'=>?_;obtain⟨a,cap,rfl,g1,g2,g3,g4⟩:=rows_val (.inr ⟨_,_,rfl⟩) hu';rcases g4 with g4 | ⟨b,off,rfl,_⟩
    ·exact absurd g4 hne
    ·exact⟨_,_,_,rfl,rfl⟩
   ·obtain⟨hne,h⟩:=h;refine fin false h fun σ F w u hu'=>?_;unfold PRep DRep at hu';obtain⟨_,⟨_,_,g1,_⟩ | ⟨_,_,_,_,_,_,_,rfl,_⟩⟩:=hu'
    ·exact absurd g1 hne
    ·exact⟨_,_,_,rfl,rfl⟩
   ·exact fin false h fun σ F w u hu'=>⟨_,_,_,rep_v hu',rfl⟩
   ·exact fin true h fun σ F w u hu'=>⟨_,_,_,rep_v hu',rfl⟩
   ·exact h.elim
  ·exact h.elim
 ·exact h.elim
end
theorem semStep_below {P:Program} {o:Oper} {e:Operand->PV} {v:PV} (rf:Rf)
  (hr:∀(c:Ctx) (σ:Sg) (h:Hp) (a:Act) (w:World),c.Ok->SW c σ h w->(∀p∈rf,h p.1=some p.2)->(∀x∈o.op.operands,PRep σ (fz c σ h w) w (e x) (a.eval x))->
   ∃u w',(execOp a.eval o).run P w=.ok (.value u) w'/\Below w.heap.size w w'/\PRep σ (fz c σ h w') w' v u):SemStep P o e v [] rf:=by
 intro c σ h a w hc hs hx hrf _ next Q K
 obtain⟨u,w',h1,hb,h2⟩:=hr c σ h a w hc hs hrf hx;unfold Oper.wp;rw[h1];exact K u σ w' (evo_below hs hb) (sw_below hs hb) h2 (fun _ _ h=>h)
theorem fz_new {c:Ctx} {σ:Sg} {h:Hp} {w w':World} (hs:SW c σ h w) {b o:Nat} (h1:w.heap.size<=b) (h2:b<w'.heap.size):fz c σ h w' b o:=
 .inr ⟨.inl (le_trans hs.size h1),h2,fun k n hb hk hσ=>by have:=(hb_block (hs.hp k hb hk) hσ).1;omega⟩
abbrev byteRows (l:List UInt8):List (List C):=l.map fun b=>[C.v (.int .u8 (b.toNat:Int))]
theorem byteRows_rep {F:Fzn} {w:World}:∀(l:List UInt8),CsRep F w (byteRows l).flatten (l.map fun b=>Value.int .u8 (b.toNat:Int))
 | []=>by simpa using csRep_nil
 | b::l=>by
  show CsRep F w (C.v (.int .u8 (b.toNat:Int))::(byteRows l).flatten) _;exact csRep_cons (by unfold CRep;exact⟨rfl,rfl⟩) (byteRows_rep l)
theorem byteRows_len (l:List UInt8):∀r∈byteRows l,r.length=1:=by
 intro r hr;obtain⟨b,_,rfl⟩:=mem_map.1 hr;rfl
theorem csRep_vals {F:Fzn} {w:World}:∀{l:List UInt8} {us:List Value},CsRep F w (byteRows l).flatten us->us=l.map fun b=>Value.int .u8 (b.toNat:Int)
 | [],us,h=>csRep_nil_inv (by simpa using h)|b::l,us,h=>by
  have h':CsRep F w (C.v (.int .u8 (b.toNat:Int))::(byteRows l).flatten) us:=h;obtain⟨u,vs,rfl,h1,h2⟩:=csRep_inv h';unfold CRep at h1;rw[csRep_vals h2,h1.1];rfl
theorem convP2_out {P:Program} {o:Oper} {e:Operand->PV} {h:Hp} {s d:TypeId} {x:Operand} {K:OpK} {X:Value->Hp->Prop} (ho:o.op=.convert s d x) (hv:convP2 P h s d (e x) K):Outc P o e h K X:=by
 have hex:∀(a:Act) (w w':World) (u:Value),(convert s d (a.eval x)).run P w=.ok u w'->(execOp a.eval o).run P w=.ok (.value u) w':=by
  intro a w w' u hr;simp[execOp,ho,hr]
 unfold convP2 at hv;split at hv
 ·rename_i k off hx;split at hv
  ·rename_i T l hk;have key:K (.d (.ptr k off)) [] [(k,.box T l)]->(∀(w:World) (g:Nat),w.shape? g=some (T,l.length)->(convert s d (.pointer (some ⟨g,off,none⟩))).run P w=.ok (.pointer (some ⟨g,off,none⟩)) w)->Outc P o e h K X:=by
    intro hK hr;refine .inl ⟨_,[],[(k,.box T l)],hK,by simpa using hk,semStep_val _ fun c σ h' a w hs hrf hp=>?_⟩;have hk':=hrf (k,.box T l) (by simp);have e1:=hp x (by simp[ho,Op.operands]);rw[hx] at e1;have e1':=e1;unfold PRep DRep at e1;obtain⟨g,n,e2,e3⟩:=e1;obtain⟨g',n',cs,e4,e5,e6,e7⟩:=hs.hp k _ hk';rw[e2] at e4;cases e4;have hlen:=e7.len;rw[Array.length_toList] at hlen;refine⟨a.eval x,hex a w w _ ?_,e1'⟩;rw[e3];exact hr w g (by unfold World.shape?;rw[e6];simp[hlen])
   split at hv
   ·rename_i t hs hd;split at hv
    ·rename_i i hi;split at hv
     ·rename_i q1 q2;refine key hv fun w g hsh=>Lib.run_to_unsafe w _ hs hd hi (fun e=>by rw[e] at q1;cases q1) hsh (le_of_ble_eq_true q2)
     ·exact hv.elim
    ·exact hv.elim
   ·rename_i u hs hd;split at hv
    ·rename_i i hi hl;rw[nObj_eq] at hl;exact key hv fun w g hsh=>Lib.run_from_unsafe w _ hs hd hi hsh hl
    ·exact hv.elim
   ·exact hv.elim
  ·exact hv.elim
 ·rename_i z hx;split at hv
  ·rename_i hs hd;refine outc_val hv fun σ F a w hp=>⟨.string z,?_,rep_str _⟩;refine hex a w w _ ?_;have:=hp x (by simp[ho,Op.operands]);rw[hx] at this;rw[rep_v this];simp[convert,run_underlying hs,run_underlying hd]
  ·rename_i el hs hd;split at hv
   ·rename_i he;obtain⟨hzs,hv⟩:=hv;refine .inl ⟨_,[],[],hv,by simp,semStep_below _ fun c σ h' a w hc hs' _ hp=>?_⟩;have e1:=hp x (by simp[ho,Op.operands]);rw[hx] at e1;have hrun:=Go.run_bytes_of_string (P:=P) w s d el z hs hd he;have hb:Below w.heap.size w w.drew:=(Below.refl _ _).drew;refine⟨_,_,hex a w _ _ (by rw[rep_v e1];exact hrun),?_,?_⟩
    ·exact hb.alloc (Nat.le_refl _) _
    ·unfold PRep DRep CRep;have hge:=grownCap_ge w z.size 0 el;have hmx:=grownCap_le_maxLen w z.size 0 el (by rw[maxLen_val];exact hzs);refine⟨some ⟨w.heap.size,0,none⟩,grownCap w z.size 0 el,by rw[length_map];rfl,by rw[length_map];exact hge,?_,(fun e=>by cases e),.inr ⟨w.heap.size,0,rfl,?_⟩⟩
     ·exact hmx
     ·rw[rowsAt_iff];refine⟨byteRows_len _,csAt_of_values (byteRows_rep _) (fun j u hu=>?_) (fun j hj=>fz_new hs' (Nat.le_refl _) (by simp))⟩;have hnew:(w.drew.alloc (.cells (bytesRow z (grownCap w z.size 0 el)) el ((bytesRow z (grownCap w z.size 0 el)).size,(bytesRow z (grownCap w z.size 0 el)).size+1))).heap[w.heap.size]? = some _:=heap_alloc_new w.drew _;rw[zero_add,cell_of_row _ _ _ _ _ _ hnew];have hj:j<z.data.toList.length:=by have:=(List.getElem?_eq_some_iff.1 hu).1;simpa using this
      rw[<- Array.getElem?_toList];unfold bytesRow;rw[Array.toList_append,List.getElem?_append_left (by simpa using hj),Array.toList_map];exact hu
   ·exact hv.elim
  ·exact hv.elim
 ·obtain⟨v,h1,h2⟩:=convP_out hv;refine outc_val h1 fun σ F a w hp=>?_;obtain⟨z,h3,h4⟩:=h2 σ F w _ (hp x (by simp[ho,Op.operands]));exact⟨z,hex a w w z h3,h4⟩
theorem sdataP_out {P:Program} {o:Oper} {e:Operand->PV} {h:Hp} {ty t0:TypeId} {x:Operand} {K:PV->Prop} {K':OpK} {X:Value->Hp->Prop} (ho:o.op=.call { callee:=.builtin .unsafeSliceData,args:=#[x],argTypes:=#[t0] }) (hty:o.type=ty)
  (hv:sdataP P ty (e x) K) (hK:∀v,K v->K' v [] []):Outc P o e h K' X:=by
 have hex:∀(a:Act) (w w':World) (u:Value),(Builtin.unsafeSliceData_ #[t0] o.type #[a.eval x]).run P w=.ok u w'->(execOp a.eval o).run P w=.ok (.value u) w':=by
  intro a w w' u hr;simp[execOp,ho,resolve,invoke,builtin,hr]
 unfold sdataP at hv;split at hv
 ·rename_i pe k el l hu hx;refine .inl ⟨_,[],[],hK _ hv,by simp,semStep_below _ fun c σ h' a w hc hs _ hp=>?_⟩;have e1:=hp x (by simp[ho,Op.operands,Call.operands]);rw[hx] at e1;unfold PRep DRep at e1;obtain⟨_,⟨g1,rfl,g3⟩ | ⟨g,cap,cur,fr,g1,g2,g3,g4,g5,g6,g7⟩⟩:=e1
  ·refine⟨.pointer none,w,hex a w w _ (by rw[g3];exact Lib.run_unsafeSliceData_nil _ _ _ _ _),Below.refl _ _,?_⟩;unfold PRep DRep;exact .inl ⟨rfl,none,rfl⟩
  ·by_cases hc0:cap=0
   ·subst hc0;have hl:l=[]:=eq_nil_of_length_eq_zero (by omega);subst hl;have hsh:w.shape? g=some (el,cur.size):=by unfold World.shape?;rw[g5]
    refine⟨_,_,hex a w _ _ (by rw[g2,hty];exact Lib.run_unsafeSliceData_zero _ _ _ _ hu _ _ _ hsh),(Below.refl _ _).alloc (Nat.le_refl _) _,?_⟩;unfold PRep DRep;exact .inl ⟨rfl,_,rfl⟩
   ·refine⟨.pointer (some ⟨g,0,none⟩),w,hex a w w _ (by rw[g2];exact Lib.run_unsafeSliceData_row _ _ _ _ _ _ hc0),Below.refl _ _,?_⟩;unfold PRep DRep;by_cases hl:l=[]
    ·exact .inl ⟨hl,_,rfl⟩
    ·exact .inr ⟨hl,g,cur,fr,g1,rfl,g5,by omega,by omega,g7⟩
 ·rename_i pe hu hx;refine outc_val (hK _ hv) fun σ F a w hp=>⟨.pointer none,hex a w w _ ?_,rep_of rfl⟩;have e1:=hp x (by simp[ho,Op.operands,Call.operands]);rw[hx] at e1;rw[rep_v e1];exact Lib.run_unsafeSliceData_nil _ _ _ _ _
 ·exact hv.elim
theorem freeze_heap (w:World) (p:Addr) (n:Nat) {b:Nat} (hb:b≠p.block):(w.freeze p n).heap[b]? = w.heap[b]?:=by
 unfold World.freeze;split
 ·rfl
 ·simp only[Array.getElem?_modify];rw[if_neg (fun e=>hb e.symm)]
theorem freeze_row (w:World) (p:Addr) (n:Nat) {cur:Array Value} {T:TypeId} {fr:Nat×Nat} (h:w.heap[p.block]? = some (.cells cur T fr)):∃fr',(w.freeze p n).heap[p.block]? = some (.cells cur T fr'):=by
 unfold World.freeze;split
 ·exact⟨fr,h⟩
 ·simp only[Array.getElem?_modify,if_true,h,map_some];obtain⟨lo,hi⟩:=fr;exact⟨_,rfl⟩
theorem freeze_size (w:World) (p:Addr) (n:Nat):(w.freeze p n).heap.size=w.heap.size:=by
 unfold World.freeze;split
 ·rfl
 ·simp
theorem freeze_cell (w:World) (p:Addr) (n:Nat) {cur:Array Value} {T:TypeId} {fr:Nat×Nat} (h:w.heap[p.block]? = some (.cells cur T fr)) (b o:Nat):(w.freeze p n).cell? ⟨b,o,none⟩=w.cell? ⟨b,o,none⟩:=by
 by_cases hb:b=p.block
 ·subst hb;obtain⟨fr',h'⟩:=freeze_row w p n h;rw[cell_of_row _ _ _ _ _ _ h',cell_of_row _ _ _ _ _ _ h]
 ·unfold World.cell?;rw[freeze_heap w p n hb]
theorem give_up {c:Ctx} {σ:Sg} {h:Hp} {w:World} (hs:SW c σ h w) {k g m n off:Nat} {hb:HB} {cur:Array Value} {T:TypeId} {fr:Nat×Nat} (hk:h k=some hb) (hσ:σ k=some (some g,m)) (hg:w.heap[g]? = some (.cells cur T fr)) :
  Evo σ σ (fz c σ h w) (fz c σ (upd h k none) (w.freeze ⟨g,off,none⟩ n)) w (w.freeze ⟨g,off,none⟩ n)/\SW c σ (upd h k none) (w.freeze ⟨g,off,none⟩ n):=by
 have hcell:=freeze_cell w ⟨g,off,none⟩ n hg;have hown:=hb_block (hs.hp k hb hk) hσ;have ev:Evo σ σ (fz c σ h w) (fz c σ (upd h k none) (w.freeze ⟨g,off,none⟩ n)) w (w.freeze ⟨g,off,none⟩ n):=by
  refine⟨fun _ _ h=>h,⟨fun b o hf=>?_,fun b o _=>hcell b o⟩,fun g2 cur2 e2 fr2 hg2=>?_⟩
  ·rcases hf with hf | ⟨f1,f2,f3⟩
   ·exact .inl hf
   ·refine .inr ⟨f1,by rw[freeze_size];exact f2,fun k2 n2 hb2 hk2 hσ2=>?_⟩;by_cases e:k2=k
    ·subst e;rw[upd_same] at hk2;cases hk2
    ·rw[upd_ne _ _ e] at hk2;exact f3 k2 n2 hb2 hk2 hσ2
  ·by_cases e:g2=g
   ·subst e;rw[hg] at hg2;cases hg2;obtain⟨fr',h'⟩:=freeze_row w ⟨g2,off,none⟩ n hg;exact⟨cur,fr',h',rfl⟩
   ·exact⟨cur2,fr2,by rw[freeze_heap w ⟨g,off,none⟩ n e];exact hg2,rfl⟩
 refine⟨ev,?_,?_,?_,by rw[freeze_size];exact hs.size,fun b b1 b2=>?_,fun k2 hb2 hk2=>?_,fun k1 k2 g2 n1 n2 a1 a2 a3 a4=>?_,hs.kept.trans ev.keeps,hs.shape.trans ev.shape,hs.sg0⟩
 ·unfold World.freeze;split<;>exact hs.os
 ·unfold World.freeze;split<;>exact hs.tape
 ·unfold World.freeze;split<;>exact hs.output
 ·have hbg:b≠g:=by
   rintro rfl;rcases hown.2 with q | q
   ·omega
   ·exact b2 q
  rw[freeze_heap w ⟨g,off,none⟩ n hbg];exact hs.block b b1 b2
 ·by_cases e:k2=k
  ·subst e;rw[upd_same] at hk2;cases hk2
  ·rw[upd_ne _ _ e] at hk2;refine (hs.hp k2 hb2 hk2).evo ev fun g2 n2 hg2=>freeze_heap w ⟨g,off,none⟩ n fun e2=>e ?_;simp only at e2;subst e2;exact hs.inj k2 k g2 n2 m (by rw[hk2];simp) (by rw[hk];simp) hg2 hσ
 ·have fx:∀q,upd h k none q≠none->h q≠none:=by
   intro q hq;by_cases e:q=k
   ·subst e;rw[upd_same] at hq;exact absurd rfl hq
   ·rwa [upd_ne _ _ e] at hq
  exact hs.inj k1 k2 g2 n1 n2 (fx _ a1) (fx _ a2) a3 a4
theorem ustrP_out {P:Program} {o:Oper} {e:Operand->PV} {h:Hp} {pt t1:TypeId} {x n:Operand} {K:OpK} {X:Value->Hp->Prop} (ho:o.op=.call { callee:=.builtin .unsafeString,args:=#[x,n],argTypes:=#[pt,t1] })
  (hv:ustrP P h pt (e x) (e n) K):Outc P o e h K X:=by
 have hex:∀(a:Act) (w w':World) (u:Value),(Builtin.unsafeString_ #[pt,t1] o.type #[a.eval x,a.eval n]).run P w=.ok u w'->(execOp a.eval o).run P w=.ok (.value u) w':=by
  intro a w w' u hr;simp[execOp,ho,resolve,invoke,builtin,hr]
 have hops:x∈o.op.operands/\n∈o.op.operands:=by simp[ho,Op.operands,Call.operands]
 unfold ustrP at hv;split at hv
 ·rename_i k el l nn hx hn;split at hv
  ·rename_i pe e2 sz hu hk;split at hv
   ·rename_i q1 q2;obtain rfl:=eq_of_beq_eq_true q1;have q2:=eq_of_beq_eq_true q2;obtain⟨rfl,hv⟩:=hv;obtain⟨bs,hbs,hv⟩:=hv;refine .inl ⟨_,_,[(k,.tail e2 sz)],hv,by simpa using hk,?_⟩;intro c σ h' a w hc hs hop hrf hfr next Q KK
    have hk':=hrf (k,.tail e2 sz) (by simp);have e1:=hop x hops.1;have e3:=hop n hops.2;rw[hx] at e1;rw[hn] at e3;have e3:=rep_v e3;unfold PRep DRep at e1;unfold Oper.wp;rcases e1 with ⟨rfl,p,hp⟩ | ⟨h0,g,cur,fr,g1,g2,g3,g4,g4',g5⟩
    ·have hb0:bs=[]:=by cases bs with
      | nil=>rfl|cons _ _=>cases hbs
     subst hb0;rw[hex a w w _ (by rw[hp,e3];exact Lib.run_unsafeString_none w pt t1 o.type p)];exact KK _ σ w (evo_erase hs k) (sw_erase hs k) (rep_str _) (fun _ _ h=>h)
    ·have hlen:bs.length=l.length:=by rw[hbs,length_map]
     have hb0:bs≠[]:=by rintro rfl;exact h0 (by rw[hbs];rfl)
     have hcells:∀j y,bs[j]? = some y->w.cell? ((⟨g,0,none⟩:Addr).add j)=some (.int .u8 y.toNat):=by
      intro j y hy;rw[Addr.add_mid];obtain⟨us,p1,p2,p3⟩:=csAt_values (rowsAt_iff.1 g5).2;rw[hbs] at p1;have p4:=csRep_vals p1;refine p2 j _ ?_;rw[p4];simp[hy]
     have hrun:=Lib.run_unsafeString_row (P:=P) w pt t1 o.type pe hu q2 g cur.size (by unfold World.shape?;rw[g3]) bs hb0 (by omega) (by rw[maxLen_val] at g4';omega) hcells;rw[hlen] at hrun;rw[hex a w _ _ (by rw[g2,e3];exact hrun)];obtain⟨a1,a2⟩:=give_up (n:=l.length) (off:=0) hs hk' g1 g3;exact KK _ σ _ a1 a2 (rep_str _) (fun _ _ h=>h)
   ·exact hv.elim
  ·exact hv.elim
 ·rename_i nn hx hn;obtain⟨rfl,hv⟩:=hv;refine outc_val hv fun σ F a w hp=>⟨_,hex a w w _ ?_,rep_str _⟩;have e1:=hp x hops.1;have e3:=hp n hops.2;rw[hx] at e1;rw[hn] at e3;rw[rep_v e1,rep_v e3];exact Lib.run_unsafeString_none w pt t1 o.type none
 ·exact hv.elim
section
variable {P:Program} {c:Ctx} {σ:Sg} {h:Hp} {w:World}
theorem append_nil_str (hs:SW c σ h w) {key:Nat} (h0:σ key=none) {t t2 ty el:TypeId} {i:TypeInfo} {z:Value} (hu:P.underlying t=some (.slice el)) (hu2:P.underlying t2=some .string) (hi:P.info? el=some i) (hz:i.zero=some z) (hzs:z.cells.size=i.size)
  (h1:i.size=1) (hby:0<i.bytes) (s:ByteArray) (hroom:s.size*i.bytes<=140737488355328) :
  ∃v w',(Builtin.append_ #[t,t2] ty #[.slice none 0 0,.string s]).run P w=.ok v w'/\Grown c σ h (upd h key (some (.tail el 1))) w key el 1 (byteRows s.data.toList) v w':=by
 have hmax:s.size<=maxLen:=by
  rw[maxLen_val];have:s.size<=s.size*i.bytes:=le_mul_of_pos_right _ hby;omega
 have hlen:(byteRows s.data.toList).length=s.size:=by rw[length_map];rfl
 by_cases hs0:s.size=0
 ·have hnil:s.data.toList=[]:=eq_nil_of_length_eq_zero (by have:s.data.toList.length=s.size:=rfl;omega);rw[hnil];obtain⟨a1,a2,a3⟩:=nil_tail (e:=el) (sz:=1) hs h0 (by decide);refine⟨_,_,?_,_,a1,a2,a3,fresh_upd _⟩;simp[Builtin.append_,run_underlying hu,run_underlying hu2,sizeOf,typeInfo,hi,Builtin.lenOf,Builtin.firstCells,hs0]
 ·have hr:=run_append_nil_string (P:=P) w t t2 ty el i z hu hu2 hi hz s (by omega) (by rw[maxLen_val] at hmax;omega) (by omega);have hge:=grownCap_ge w s.size 0 el;have hle:=grownCap_le_maxLen w s.size 0 el hmax;have gn:=grown_new (e:=el) (sz:=1) (cap:=grownCap w s.size 0 el) (z:=z) (l:=byteRows s.data.toList) (us:=s.data.toList.map fun b=>Value.int .u8 (b.toNat:Int)) hs h0 (by rw[hzs,h1]) (by decide) (byteRows_len _) (byteRows_rep _) (by rw[length_map,hlen,mul_one];rfl) (by rw[hlen];exact hge) hle;rw[hlen,<- Array.toList_map,Array.toArray_toList] at gn;exact⟨_,_,hr,gn⟩
theorem append_own_str (hs:SW c σ h w) (hc:c.Ok) {k key:Nat} (h0:σ key=none) {t t2 ty el e2:TypeId} {i:TypeInfo} {z:Value} (hu:P.underlying t=some (.slice el)) (hu2:P.underlying t2=some .string) (hi:P.info? el=some i) (hz:i.zero=some z) (hzs:z.cells.size=i.size)
  (h1:i.size=1) (hby:0<i.bytes) {l:List (List C)} {d:Value} (hk:h k=some (.tail e2 1)) (hd:PRep σ (fz c σ h w) w (.d (.app k el 1 l)) d) (s:ByteArray) (hroom:(l.length+s.size)*i.bytes<=140737488355328) :
  ∃v w',(Builtin.append_ #[t,t2] ty #[d,.string s]).run P w=.ok v w'/\Grown c σ h (upd (upd h k none) key (some (.tail el 1))) w key el 1 (l++byteRows s.data.toList) v w':=by
 have hmax:l.length+s.size<=maxLen:=by
  rw[maxLen_val];have:l.length+s.size<=(l.length+s.size)*i.bytes:=le_mul_of_pos_right _ hby;omega
 have hlen:(byteRows s.data.toList).length=s.size:=by rw[length_map];rfl
 have he1:=evo_erase hs k;have hs1:=sw_erase hs k;have lift:∀{v w' ll},Grown c σ (upd h k none) (upd (upd h k none) key (some (.tail el 1))) w key el 1 ll v w'->Grown c σ h (upd (upd h k none) key (some (.tail el 1))) w key el 1 ll v w':=by
  rintro v w' ll ⟨σ',a1,a2,a3,a4⟩;exact⟨σ',he1.trans a1,a2,a3,a4⟩
 unfold PRep DRep at hd;obtain⟨_,⟨hσ,rfl,rfl⟩ | ⟨g,cap,cur,fr,hσ,rfl,hlc,hcm,hg,hcs,hrw⟩⟩:=hd
 ·obtain⟨v,w',a1,a2⟩:=append_nil_str (ty:=ty) (el:=el) hs1 h0 hu hu2 hi hz hzs h1 hby s (by simpa using hroom);exact⟨v,w',a1,lift a2⟩
 ·have hn0:c.own g:=(hb_block (hs.hp k _ hk) hσ).2;have hfr:fr=(0,0):=by
   obtain⟨_,ob,n2,q1,q2⟩:=hs.hp k _ hk;rw[hσ] at q1;cases q1;obtain⟨_,cur2,q3⟩:=q2;rw[hg] at q3;cases q3;rfl
  subst hfr;obtain⟨us,hus,hucell,huf⟩:=csAt_values (rowsAt_iff.1 hrw).2;have hlr:=(rowsAt_iff.1 hrw).1;have hul:us.length=l.length*1:=by rw[hus.len,flatten_len hlr]
  have htake:cur.toList.take (l.length*1)=us:=by
   apply List.ext_getElem?;intro j;rw[List.getElem?_take];split
   ·rename_i hj;have hju:us[j]? = some us[j]:=List.getElem?_eq_getElem (by omega);have:=hucell j _ hju;rw[zero_add,cell_of_row _ _ _ _ _ _ hg] at this;rw[hju];simpa using this
   ·rw[List.getElem?_eq_none (by omega)]
  have hvs:CsRep (fz c σ h w) w (byteRows s.data.toList).flatten (Lib.strCells s):=byteRows_rep _;have hvl:(Lib.strCells s).length=s.size:=Lib.strCells_length s;have hlm:∀r∈l++byteRows s.data.toList,r.length=1:=by
   intro r hr;rcases mem_append.1 hr with hr | hr
   ·exact hlr r hr
   ·exact byteRows_len _ r hr
  by_cases hroom2:l.length+s.size<=cap
  ·have hr:=Lib.run_append_room_string (P:=P) w t t2 ty el i hu hu2 hi h1 g l.length cap cur hg s hroom2 (by rw[hcs,mul_one];exact hroom2);obtain⟨a1,a2,a3⟩:=grow_tail (key:=key) (cur':=(cur.toList.take l.length++Lib.strCells s++cur.toList.drop (l.length+s.size)).toArray) (m:=byteRows s.data.toList) (vs:=Lib.strCells s) hs h0 hc hk hσ hg hn0 (by decide) rfl hlm hus hvs (by rw[hlen];exact hroom2) hcm hcs htake
    (by rw[mul_one] at htake;rw[htake,mul_one,hvl])
   refine⟨_,_,hr,_,a1,a2,?_,fresh_upd _⟩;have e:Value.slice (some ⟨g,0,none⟩) (l++byteRows s.data.toList).length cap=.slice (some ⟨g,0,none⟩) (l.length+s.size) cap:=by rw[length_append,hlen]
   rw[<- e];exact a3
  ·have holds:∀j v,us[j]? = some v->w.cell? ((⟨g,0,none⟩:Addr).add j)=some v:=fun j v hv=>by rw[Addr.add_mid];exact hucell j v hv
   have hr:=Lib.run_append_grow_string (P:=P) w t t2 ty el i z hu hu2 hi hz ⟨g,0,none⟩ l.length cap us (by rw[h1];exact hul) holds s (by omega) (by rw[maxLen_val] at hmax;omega) (growslice_fits (by omega) hroom);have hge:=grownCap_ge w (l.length+s.size) cap el;have hle:=grownCap_le_maxLen w (l.length+s.size) cap el hmax;have gn:=grown_new (e:=el) (sz:=1) (us:=us++Lib.strCells s) (l:=l++byteRows s.data.toList) (z:=z) (cap:=grownCap w (l.length+s.size) cap el) hs1 h0 (by rw[hzs,h1]) (by decide) hlm (by rw[flatten_append];exact CsRep.keeps he1.keeps _ _ (hus.append hvs)) (by rw[length_append,length_append,hlen];omega) (by rw[length_append,hlen];exact hge) hle;rw[length_append,hlen,<- append_toArray] at gn;exact⟨_,_,hr,lift gn⟩
end
theorem appStrP_out {P:Program} {o:Oper} {key:Nat} {e:Operand->PV} {h:Hp} {t t2:TypeId} {s x:Operand} {z:ByteArray} {K:OpK} {X:Value->Hp->Prop} (ho:o.op=.call { callee:=.builtin .append,args:=#[s,x],argTypes:=#[t,t2] })
  (hx0:e x=pStr z) (hv:appStrP P h key t t2 (e s) z K):Outc P o e h K X:=by
 unfold appStrP at hv;split at hv
 ·rename_i hu2;obtain⟨el,i,hu,hi,hv⟩:=tySlice_out hv;split at hv
  ·rename_i hel h1;have h1:=eq_of_beq_eq_true h1;unfold elemOk at hel;split at hel
   ·rename_i zz hz;simp only[Bool.and_eq_true] at hel;obtain⟨⟨hzs,hsz⟩,hby⟩:=hel;have hzs:=eq_of_beq_eq_true hzs;have hby:=le_of_ble_eq_true hby;have hops:∀y,y=s\/y=x->y∈o.op.operands:=by
     intro y hy;simp only[ho,Op.operands,Call.operands];rcases hy with rfl | rfl<;>simp
    have hexec:∀(a:Act) (w w':World) (v:Value),(Builtin.append_ #[t,t2] o.type #[a.eval s,a.eval x]).run P w=.ok v w'->(execOp a.eval o).run P w=.ok (.value v) w':=by
     intro a w w' v hr;simp[execOp,ho,resolve,invoke,builtin,hr]
    split at hv
    ·rename_i k el' sz l hs;split at hv
     ·rename_i e2 sz2 e1 e3 ekk hk;obtain rfl:=eq_of_beq_eq_true e1;obtain rfl:=eq_of_beq_eq_true e3;split at hv
      ·rename_i e4 e5;obtain rfl:=eq_of_beq_eq_true e4;obtain rfl:=eq_of_beq_eq_true e5;obtain⟨hroom,hv⟩:=hv;refine .inl ⟨_,_,[(k,_)],hv,by simpa using hk,?_⟩;intro c σ h' a w hc hs' hx hrf hfr next Q KK
       have h0:σ key=none:=by
        by_cases e:k=key
        ·subst e;have:=beq_refl k;rw[show Nat.beq k k=false from ekk] at this;cases this
        ·exact hfr key (by simp[Dl.keys]) (by simpa using e)
       have hk':=hrf (k,_) (mem_singleton.2 rfl);have hps:=hx s (hops s (.inl rfl));rw[hs] at hps;have hpx:=hx x (hops x (.inr rfl));rw[hx0] at hpx;obtain⟨v,w',a1,σ',a2,a3,a4,a5⟩:=append_own_str (ty:=o.type) hs' hc h0 hu hu2 hi hz hzs h1 hby hk' hps z hroom;unfold Oper.wp;rw[hexec a w w' v (by rw[rep_v hpx];exact a1)];exact KK v σ' w' a2 a3 a4 fun k hk=>a5 k (by rintro rfl;simp[Dl.keys] at hk)
      ·exact hv.elim
     ·exact hv.elim
    ·rename_i hs;obtain⟨hroom,hv⟩:=hv;refine .inl ⟨_,_,[],hv,by simp,?_⟩;intro c σ h' a w hc hs' hx hrf hfr next Q KK
     have h0:σ key=none:=hfr key (by simp[Dl.keys]) (by simp);have hps:=rep_v (by have:=hx s (hops s (.inl rfl));rw[hs] at this;exact this);have hpx:=hx x (hops x (.inr rfl));rw[hx0] at hpx;obtain⟨v,w',a1,σ',a2,a3,a4,a5⟩:=append_nil_str (ty:=o.type) hs' h0 hu hu2 hi hz hzs h1 hby z hroom;unfold Oper.wp;rw[hexec a w w' v (by rw[hps,rep_v hpx];exact a1)];exact KK v σ' w' a2 a3 a4 fun k hk=>a5 k (by rintro rfl;simp[Dl.keys] at hk)
    ·exact hv.elim
   ·cases hel
  ·exact hv.elim
 ·exact hv.elim
theorem minmaxP_out {mx:Bool} {x y:PV} {K:PV->Prop} (h:minmaxP mx x y K):∃v,K v/\∀(P:Program) (σ:Sg) (F:Fzn) (w:World) (u v':Value) (ts:Array TypeId) (ty:TypeId),PRep σ F w x u->PRep σ F w y v'->
  ∃z,(bif mx then Builtin.max_ ts ty #[u,v'] else Builtin.min_ ts ty #[u,v']).run P w=.ok z w/\PRep σ F w v z:=by
 unfold minmaxP at h;split at h
 ·rename_i k a k' b;split at h
  ·rename_i hk;obtain rfl:=of_decide_eq_true hk;cases mx with
   | true=>
    refine⟨_,h,fun P σ F w u v' ts ty hx hy=>⟨_,?_,rep_int _ _⟩⟩;rw[rep_v hx,rep_v hy];simp[Builtin.max_,Builtin.max2]
   | false=>
    refine⟨_,h,fun P σ F w u v' ts ty hx hy=>⟨_,?_,rep_int _ _⟩⟩;rw[rep_v hx,rep_v hy];simp[Builtin.min_,Builtin.min2]
  ·exact h.elim
 ·exact h.elim
theorem isIface_out {P:Program} {t:TypeId} (h:isIface P t=false):∃d,P.underlying t=some d/\∀ms,d≠.interface ms:=by
 unfold isIface at h;split at h
 ·cases h
 ·rename_i d hn hd;exact⟨d,hd,fun ms e=>hn ms e⟩
 ·cases h
theorem plainDs_out:∀{l:List D} {vs:List Value},plainDs l=some vs->∀{σ:Sg} {F:Fzn} {w:World} {us:List Value},DsRep σ F w l us->us=vs
 | [],vs,h,σ,F,w,us,hr=>by cases h;exact dsRep_nil_inv hr
 | .c (.v x)::l,vs,h,σ,F,w,us,hr=>by
  unfold plainDs at h;split at h
  ·rename_i r hq;cases h;obtain⟨u,vs',rfl,h1,h2⟩:=dsRep_inv hr;rw[plainDs_out hq h2];unfold DRep CRep at h1;rw[h1.1]
  ·cases h
 | .c (.sl _ _)::_,vs,h,_,_,_,_,_=>by cases h
 | .c (.ro _)::_,vs,h,_,_,_,_,_=>by cases h
 | .c (.ifc _ _)::_,vs,h,_,_,_,_,_=>by cases h
 | .c (.ifc1 _ _)::_,vs,h,_,_,_,_,_=>by cases h
 | .app _ _ _ _::_,vs,h,_,_,_,_,_=>by cases h
 | .ptr _ _::_,vs,h,_,_,_,_,_=>by cases h
 | .arr _ _ _ _ _::_,vs,h,_,_,_,_,_=>by cases h
 | .elt _ _ _ _::_,vs,h,_,_,_,_,_=>by cases h
 | .clo _ _ _::_,vs,h,_,_,_,_,_=>by cases h
 | .mclo _ _::_,vs,h,_,_,_,_,_=>by cases h
 | .optp _ _::_,vs,h,_,_,_,_,_=>by cases h
 | .data _ _ _::_,vs,h,_,_,_,_,_=>by cases h
 | .mp _::_,vs,h,_,_,_,_,_=>by cases h
 | .emp::_,vs,h,_,_,_,_,_=>by cases h
 | .cut _ _ _ _ _ _::_,vs,h,_,_,_,_,_=>by cases h
theorem ifaceP_out {P:Program} {t:TypeId} {x:PV} {K:PV->Prop} (h:ifaceP P t x K):∃v,K v/\∀(σ:Sg) (F:Fzn) (w:World) (u:Value),PRep σ F w x u->∃z,(Instr.makeInterface t u).run P w=.ok z w/\PRep σ F w v z:=by
 unfold ifaceP at h;split at h
 ·exact h.elim
 ·rename_i hi;obtain⟨d,hd,hni⟩:=isIface_out hi;have hrun:∀(u:Value) (w:World),(Instr.makeInterface t u).run P w=.ok (.iface t u) w:=by
   intro u w;unfold Instr.makeInterface;rw[Sem.run_bind,run_underlying hd w];cases d<;>first|exact absurd rfl (hni _) | simp
  split at h
  ·rename_i y;obtain⟨c,h,hc⟩:=close_rep h;split at h
   ·rename_i v;refine⟨_,h,fun σ F w u hu=>⟨_,hrun u w,?_⟩⟩;unfold PRep at hu;have:=hc σ F w u hu;unfold CRep at this;rw[this.1];exact rep_of rfl
   ·rename_i hne;refine⟨_,h,fun σ F w u hu=>⟨_,hrun u w,?_⟩⟩;unfold PRep at hu;unfold PRep DRep CRep;exact⟨u,rfl,hc σ F w u hu⟩
  ·rename_i l;split at h
   ·rename_i vs hvs;refine⟨_,h,fun σ F w u hu=>⟨_,hrun u w,?_⟩⟩;unfold PRep at hu;obtain⟨us,rfl,hu⟩:=hu;rw[plainDs_out hvs hu];exact rep_of rfl
   ·obtain⟨cs,h,hc⟩:=closeL_out h;refine⟨_,h,fun σ F w u hu=>⟨_,hrun u w,?_⟩⟩;unfold PRep at hu;obtain⟨us,rfl,hu⟩:=hu;unfold PRep DRep CRep;exact⟨us,rfl,hc σ F w us hu⟩
  ·exact h.elim
theorem allOne_rep {σ:Sg} {F:Fzn} {w:World}:∀{l:List Value},l.all Value.oneCell'=true->DsRep σ F w (l.map fun v=>D.c (C.v v)) l
 | [],_=>dsRep_nil|x::l,h=>by
  simp only[all_cons,Bool.and_eq_true] at h;exact dsRep_cons (by unfold DRep CRep;exact⟨rfl,h.1⟩) (allOne_rep h.2)
theorem heldP_out {x:PV} {K:TypeId->PV->Prop} (h:heldP x K):∃t v,K t v/\∀(σ:Sg) (F:Fzn) (w:World) (u:Value),PRep σ F w x u->∃z,u=.iface t z/\PRep σ F w v z:=by
 unfold heldP at h;split at h
 ·rename_i t vs;split at h
  ·rename_i hall;refine⟨_,_,h,fun σ F w u hu=>⟨.agg vs,rep_v hu,?_⟩⟩;unfold PRep;exact⟨vs.toList,by simp,allOne_rep hall⟩
  ·exact h.elim
 ·rename_i t v _;split at h
  ·rename_i hone;exact⟨_,_,h,fun σ F w u hu=>⟨v,rep_v hu,rep_of hone⟩⟩
  ·exact h.elim
 ·rename_i t l;refine⟨_,_,h,fun σ F w u hu=>?_⟩;unfold PRep DRep CRep at hu;obtain⟨us,rfl,h1⟩:=hu;exact⟨_,rfl,by unfold PRep;exact⟨us,rfl,dsRep_of_cs h1⟩⟩
 ·rename_i t c;refine⟨_,_,h,fun σ F w u hu=>?_⟩;unfold PRep DRep CRep at hu;obtain⟨z,rfl,h1⟩:=hu;exact⟨z,rfl,by unfold PRep DRep;exact h1⟩
 ·exact h.elim
theorem assertP_out {P:Program} {x:PV} {asserted:TypeId} {ok:Bool} {K:PV->Prop} (h:assertP P x asserted ok K):∃v,K v/\∀(σ:Sg) (F:Fzn) (w:World) (u:Value) (xt:TypeId),PRep σ F w x u->∃z,(Instr.typeAssert u xt asserted ok).run P w=.ok z w/\PRep σ F w v z:=by
 unfold assertP at h;split at h
 ·exact h.elim
 ·rename_i hi;obtain⟨d,hd,hni⟩:=isIface_out hi;obtain⟨t,v,h',hv⟩:=heldP_out h;clear h;have hrun:∀(u:Value) (xt:TypeId) (w:World),(Instr.typeAssert (.iface t u) xt asserted ok).run P w=(if t=asserted then (pure (if ok then .tuple #[u,.bool true] else u):Sem Value).run P w else (if ok then (do pure (.tuple #[<- zeroValue asserted,.bool false]):Sem Value).run P w else (runtimePanic (.typeAssertion (some xt) (some t) asserted ""):Sem Value).run P w)):=by
   intro u xt w;unfold Instr.typeAssert;rw[Sem.run_bind,run_underlying hd w];cases d<;>first|exact absurd rfl (hni _) | (simp only[Result.andThen_ok];split<;>(cases ok<;>simp))
  have tupRep:∀(σ:Sg) (F:Fzn) (w:World) (a:PV) (z:Value) (b:Bool),PRep σ F w a z->PRep σ F w (.tup [a,pBool b]) (.tuple #[z,.bool b]):=by
   intro σ F w a z b ha;unfold PRep;exact⟨[z,.bool b],rfl,by unfold PsRep PsRep PsRep;exact⟨ha,rep_bool b,trivial⟩⟩
  cases hq:Nat.beq t asserted with
  | true=>
   have e1:t=asserted:=eq_of_beq_eq_true hq;subst e1;rw[hq] at h';cases ok with
   | true=>
    refine⟨_,h',fun σ F w u xt hu=>?_⟩;obtain⟨z,rfl,hz⟩:=hv σ F w u hu;exact⟨_,by rw[hrun,if_pos rfl];simp,tupRep σ F w v z true hz⟩
   | false=>
    refine⟨_,h',fun σ F w u xt hu=>?_⟩;obtain⟨z,rfl,hz⟩:=hv σ F w u hu;exact⟨z,by rw[hrun,if_pos rfl];simp,hz⟩
  | false=>
   have hne:t≠asserted:=beq_false_ne hq;rw[hq] at h';cases ok with
   | false=>exact h'.elim|true=>
    cases hinf:P.info? asserted with
    | none=>rw[hinf] at h';exact h'.elim|some i=>
     rw[hinf] at h';simp only at h';cases hzz:i.zero with
     | none=>rw[hzz] at h';exact h'.elim|some zz=>
      rw[hzz] at h';simp only at h';have hzero:∀w,(zeroValue asserted).run P w=.ok zz w:=by intro w;simp[zeroValue,typeInfo,hinf,hzz]
      split at h'
      ·rename_i hone;refine⟨_,h',fun σ F w u xt hu=>?_⟩;obtain⟨z,rfl,hz⟩:=hv σ F w u hu;exact⟨_,by rw[hrun,if_neg hne];simp[hzero],tupRep σ F w _ zz false (rep_of hone)⟩
      ·split at h'
       ·rename_i vs _;split at h'
        ·rename_i hall;refine⟨_,h',fun σ F w u xt hu=>?_⟩;obtain⟨z,rfl,hz⟩:=hv σ F w u hu;exact⟨_,by rw[hrun,if_neg hne];simp[hzero],tupRep σ F w _ (.agg vs) false (by unfold PRep;exact⟨vs.toList,by simp,allOne_rep hall⟩)⟩
        ·exact h'.elim
       ·exact h'.elim
theorem made_flat (z:Array Value) (hz:0<z.size):∀n:Nat,(madeCells z (n*z.size)).toList=(List.replicate n z.toList).flatten
 | 0=>by simp[madeCells]
 | n+1=>by
  have ih:=made_flat z hz n;have:(madeCells z ((n+1)*z.size)).toList=(madeCells z (n*z.size)).toList++z.toList:=by
   apply List.ext_getElem?;intro j;have hl:((madeCells z (n*z.size)).toList).length=n*z.size:=by rw[Array.length_toList,size_madeCells]
   by_cases h1:j<n*z.size
   ·rw[List.getElem?_append_left (by omega)];have h2:j<(n+1)*z.size:=by rw[add_mul];omega
    simp[madeCells,h1,h2]
   ·rw[List.getElem?_append_right (by omega),hl];by_cases h2:j<(n+1)*z.size
    ·have h3:j - n*z.size<z.size:=by rw[add_mul] at h2;omega
     have h4:j%z.size=j - n*z.size:=by
      have:j=(j - n*z.size)+n*z.size:=by omega
      rw[this,Nat.add_mul_mod_self_right,Nat.mod_eq_of_lt h3];omega
     simp[madeCells,h2,h4,h3]
    ·have h3:¬j - n*z.size<z.size:=by rw[add_mul] at h2;omega
     rw[List.getElem?_eq_none (by rw[Array.length_toList,size_madeCells];omega),List.getElem?_eq_none (by rw[Array.length_toList];omega)]
  rw[this,ih,List.replicate_succ',flatten_append];simp
theorem rep_replicate {F:Fzn} {w:World} {cs:List C} {us:List Value} (h:CsRep F w cs us):∀n:Nat,CsRep F w (List.replicate n cs).flatten (List.replicate n us).flatten
 | 0=>by simpa using csRep_nil
 | n+1=>by
  rw[List.replicate_succ,List.replicate_succ,flatten_cons,flatten_cons];exact h.append (rep_replicate h n)
theorem allOne_cs {F:Fzn} {w:World}:∀{l:List Value},l.all Value.oneCell'=true->CsRep F w (l.map C.v) l
 | [],_=>csRep_nil|x::l,h=>by
  simp only[all_cons,Bool.and_eq_true] at h;exact csRep_cons (by unfold CRep;exact⟨rfl,h.1⟩) (allOne_cs h.2)
theorem makeP_out {P:Program} {o:Oper} {key:Nat} {e:Operand->PV} {h:Hp} {t:TypeId} {n cc:Operand} {K:OpK} {X:Value->Hp->Prop} (ho:o.op=.makeSlice t n cc) (hv:makeP P key t (e n) (e cc) K):Outc P o e h K X:=by
 unfold makeP at hv;split at hv
 ·rename_i k1 nn k2 c2 hn hc;obtain⟨el,i,hu,hi,hv⟩:=tySlice_out hv;split at hv
  ·rename_i z hz;split at hv
   ·rename_i q1 q2 q3;have q2:=eq_of_beq_eq_true q2;have q3:0<i.size:=pos_of_ne_zero (beq_false_ne q3);obtain⟨⟨p1,rfl,p3,p4⟩,hv⟩:=hv;refine .inl ⟨_,_,[],hv,by simp,?_⟩;intro c σ h' a w hcok hs hop hrf hfr next Q KK
    have h0:σ key=none:=hfr key (by simp[Dl.keys]) (by simp);have e1:=hop n (by simp[ho,Op.operands]);have e2:=hop cc (by simp[ho,Op.operands]);rw[hn] at e1;rw[hc] at e2;have hrun:=run_make (P:=P) w t el i z hu hi hz k1 k2 c2 c2 p1 (Int.le_refl _) p3 p4;unfold Oper.wp;have hex:(execOp a.eval o).run P w=.ok (.value (.slice (some ⟨w.heap.size,0,none⟩) c2.toNat c2.toNat)) (w.alloc (.cells (madeCells z.cells (c2.toNat*i.size)) el)):=by
     simp[execOp,ho,rep_v e1,rep_v e2,hrun]
    rw[hex];have ev:=evo_new hs h0 (.cells (madeCells z.cells (c2.toNat*i.size)) el) 0 (.arr el i.size (List.replicate c2.toNat (z.cells.toList.map C.v)));have hnew:(w.alloc (.cells (madeCells z.cells (c2.toNat*i.size)) el)).heap[w.heap.size]? = some (.cells (madeCells z.cells (c2.toNat*i.size)) el (0,0)):=heap_alloc_new w _;refine KK _ (upd σ key (some (some w.heap.size,0))) _ ev (sw_new hs h0 _ 0 _ ⟨q3,?_,some w.heap.size,0,upd_same ..,.inl hs.size,_,hnew,?_,?_⟩) ?_ ?_
    ·intro r hr;rw[(List.mem_replicate.1 hr).2,length_map,Array.length_toList,q2]
    ·rw[length_replicate,size_madeCells];exact Nat.le_refl _
    ·rw[length_replicate,take_of_length_le (by rw[Array.length_toList,size_madeCells];exact Nat.le_refl _)];have:=made_flat z.cells (by omega) c2.toNat;rw[q2] at this;rw[this];exact rep_replicate (allOne_cs q1) _
    ·unfold PRep DRep;refine⟨q3,.inr ⟨w.heap.size,0,0,c2.toNat,_,_,upd_same ..,rfl,Nat.le_refl _,by rw[maxLen_val];omega,hnew,by rw[size_madeCells];omega,fun _=>by rw[zero_mul]⟩⟩
    ·intro k hk hn';rw[upd_ne _ _ (by simpa [Dl.keys] using hk)];exact hn'
   ·exact hv.elim
  ·exact hv.elim
 ·exact hv.elim
end Go.Proofs.Ytdjbckknghddpaa.Pm
namespace Go.Proofs.Ytdjbckknghddpaa.Pm
open Go.RowKit
theorem row_rep {F:Fzn} {w:World} {s:Nat}:∀{rows:List (List C)} {j:Nat} {r:List C} {us:List Value},(∀r∈rows,r.length=s)->rows[j]? = some r->CsRep F w rows.flatten us->CsRep F w r ((us.drop (j*s)).take s)
 | [],j,r,us,_,h,_=>by simp at h
 | r0::rows,0,r,us,hl,h,hu=>by
  simp only[List.getElem?_cons_zero,Option.some.injEq] at h;subst h;rw[flatten_cons] at hu;have:=hu.take s;rw[<- hl r0 (mem_cons_self ..),take_left] at this;rw[zero_mul,drop_zero,<- hl r0 (mem_cons_self ..)];exact this
 | r0::rows,j+1,r,us,hl,h,hu=>by
  simp only[List.getElem?_cons_succ] at h;rw[flatten_cons] at hu;have:=hu.drop s;rw[<- hl r0 (mem_cons_self ..),List.drop_left,hl r0 (mem_cons_self ..)] at this;have ih:=row_rep (fun r hr=>hl r (mem_cons_of_mem _ hr)) h this;rw[drop_drop] at ih;rw[show (j+1)*s=s+j*s by rw[add_mul];omega];exact ih
theorem drow_rep {σ:Sg} {F:Fzn} {w:World} {s:Nat}:∀{rows:List (List D)} {j:Nat} {r:List D} {us:List Value},(∀r∈rows,r.length=s)->rows[j]? = some r->DsRep σ F w rows.flatten us->DsRep σ F w r ((us.drop (j*s)).take s)
 | [],j,r,us,_,h,_=>by simp at h
 | r0::rows,0,r,us,hl,h,hu=>by
  simp only[List.getElem?_cons_zero,Option.some.injEq] at h;subst h;rw[flatten_cons] at hu;have:=hu.take s;rw[<- hl r0 (mem_cons_self ..),take_left] at this;rw[zero_mul,drop_zero,<- hl r0 (mem_cons_self ..)];exact this
 | r0::rows,j+1,r,us,hl,h,hu=>by
  simp only[List.getElem?_cons_succ] at h;rw[flatten_cons] at hu;have:=hu.drop s;rw[<- hl r0 (mem_cons_self ..),List.drop_left,hl r0 (mem_cons_self ..)] at this;have ih:=drow_rep (fun r hr=>hl r (mem_cons_of_mem _ hr)) h this;rw[drop_drop] at ih;rw[show (j+1)*s=s+j*s by rw[add_mul];omega];exact ih
theorem opt_rep {σ:Sg} {F:Fzn} {w:World} {e:Operand->PV} {ρ:Operand->Value} (x:Option Operand) (h:∀y,x=some y->PRep σ F w (e y) (ρ y)):OptRep σ F w (x.map e) (x.map ρ):=by
 cases x with
 | none=>exact .inl ⟨rfl,rfl⟩|some y=>exact .inr ⟨_,_,rfl,rfl,h y rfl⟩
theorem flat_single:∀cs:List C,(cs.map fun c=>[c]).flatten=cs
 | []=>rfl|c::cs=>by rw[map_cons,flatten_cons,flat_single cs];rfl
theorem tyArr_out {P:Program} {t:TypeId} {K:Nat->TypeId->TypeInfo->Prop} (h:tyArr P t K):∃n e i,P.underlying t=some (.array n e)/\P.info? e=some i/\K n e i:=by
 unfold tyArr at h;split at h
 ·rename_i n e hu;split at h
  ·rename_i i hi;exact⟨n,e,i,hu,hi,h⟩
  ·exact h.elim
 ·exact h.elim
theorem semStep_arr {P:Program} {o:Oper} {key:Nat} {e:Operand->PV} {s:Nat} {rows:List (List C)} {T:TypeId} (hs0:0<s) (hrl:∀r∈rows,r.length=s)
  (hr:∀(σ:Sg) (F:Fzn) (a:Act) (w:World),(∀x∈o.op.operands,PRep σ F w (e x) (a.eval x))->
   ∃us:List Value,CsRep F w rows.flatten us/\(execOp a.eval o).run P w=.ok (.value (.pointer (some ⟨w.heap.size,0,none⟩))) (w.alloc (.cells us.toArray T))) :
  SemStep P o e (.d (.ptr key 0)) [(key,some (.arr T s rows))] []:=by
 intro c σ h a w hc hs hx hrf hfr next Q K
 have h0:σ key=none:=hfr key (by simp[Dl.keys]) (by simp);obtain⟨us,h1,h2⟩:=hr σ (fz c σ h w) a w hx;unfold Oper.wp;rw[h2];have ev:=evo_new hs h0 (.cells us.toArray T) 0 (.arr T s rows);have hlen:rows.length*s=us.length:=by rw[h1.len,flatten_len hrl]
 refine K _ (upd σ key (some (some w.heap.size,0))) _ ev (sw_new hs h0 _ 0 _ ?_) ?_ ?_
 ·refine⟨hs0,hrl,some w.heap.size,0,upd_same ..,.inl hs.size,us.toArray,heap_alloc_new w _,by simpa using le_of_eq hlen,?_⟩;rw[show (us.toArray).toList=us from rfl,take_of_length_le (by omega)];exact CsRep.keeps ev.keeps _ _ h1
 ·unfold PRep DRep;exact⟨w.heap.size,0,upd_same ..,rfl⟩
 ·intro k hk hn;rw[upd_ne _ _ (by simpa [Dl.keys] using hk)];exact hn
theorem allocP2_out {P:Program} {o:Oper} {key:Nat} {e:Operand->PV} {h:Hp} {t:TypeId} {K:OpK} {X:Value->Hp->Prop} (ho:o.op=.alloc t) (hv:allocP2 P key t K):Outc P o e h K X:=by
 unfold allocP2 at hv;split at hv
 ·exact allocP_out ho hv
 ·obtain⟨n,el,i,hu,hi,hv⟩:=tyArr_out hv;split at hv
  ·rename_i it z hit hz;split at hv
   ·rename_i zt hzt q1 q2 q3;obtain⟨hcs,hv⟩:=hv;have hv:=forceL_out (K:=fun zr=>K (.d (.ptr key 0)) [(key,some (.arr t i.size (List.replicate n zr)))] []) hv;have q2:=eq_of_beq_eq_true q2;have q3:0<i.size:=pos_of_ne_zero (beq_false_ne q3);refine .inl ⟨_,_,[],hv,by simp,semStep_arr q3 ?_ fun σ F a w _=>⟨zt.cells.toList,?_,?_⟩⟩
    ·intro r hr;rw[(List.mem_replicate.1 hr).2,length_map,Array.length_toList,q2]
    ·rw[hcs];exact rep_replicate (allOne_cs q1) n
    ·simp[execOp,ho,Instr.alloc,zeroValue,typeInfo,hit,hzt,newVar,newRow]
   ·exact hv.elim
  ·exact hv.elim
theorem boxP2_out {P:Program} {o:Oper} {key:Nat} {e:Operand->PV} {h:Hp} {t:TypeId} {x:Operand} {K:OpK} {X:Value->Hp->Prop} (ho:o.op=.box t x) (hv:boxP2 P key t (e x) K):Outc P o e h K X:=by
 unfold boxP2 at hv;split at hv
 ·exact boxP_out ho hv
 ·obtain⟨n,el,i,hu,hi,hv⟩:=tyArr_out hv;split at hv
  ·obtain⟨l,hv,hl⟩:=cells_out hv;obtain⟨cs,hv,hcs⟩:=closeL_out hv;have hv:=forceL_out (K:=fun rs=>K (.d (.ptr key 0)) [(key,some (.arr t 1 rs))] []) hv;refine .inl ⟨_,_,[],hv,by simp,semStep_arr zero_lt_one ?_ fun σ F a w hx=>⟨(a.eval x).cells.toList,?_,?_⟩⟩
   ·intro r hr;obtain⟨q,_,rfl⟩:=mem_map.1 hr;rfl
   ·rw[flat_single];exact hcs _ _ _ _ (cells_rep hl (hx x (by simp[ho,Op.operands])))
   ·simp[execOp,ho,Instr.box,newVar,newRow]
  ·exact hv.elim
theorem sliceP2_out {P:Program} {o:Oper} {e:Operand->PV} {h:Hp} {t:TypeId} {x:Operand} {lo hi:Option Operand} {K:OpK} {X:Value->Hp->Prop} (ho:o.op=.slice t x lo hi none)
  (hv:sliceP2 P h t (e x) (lo.map e) (hi.map e) K):Outc P o e h K X:=by
 have fix:∀{x:Option PV} {d n:Int} {K:Int->Prop},((x=none/\K d)\/∃k n,x=some (pInt k n)/\K n)->∃n,((x=none/\n=d)\/∃k,x=some (pInt k n))/\K n:=by
  intro x d n K h;rcases h with ⟨rfl,h⟩ | ⟨k,n,rfl,h⟩
  ·exact⟨d,.inl ⟨rfl,rfl⟩,h⟩
  ·exact⟨n,.inr ⟨k,rfl⟩,h⟩
 unfold sliceP2 at hv;split at hv
 ·rename_i k off hx;split at hv
  ·rename_i e0 s rows q0 hk;obtain⟨n,el,i,hu,hi',hv⟩:=tyArr_out hv;split at hv
   ·rename_i hs1;rw[Bool.and_eq_true] at hs1;have hmx:=le_of_ble_eq_true hs1.2;obtain rfl:=eq_of_beq_eq_true hs1.1;obtain rfl:=eq_of_beq_eq_true q0;obtain⟨l,hl,hv⟩:=fix (n:=0) (bound_out hv);obtain⟨hh,hhi,hv⟩:=fix (n:=0) (bound_out hv);obtain⟨⟨hn,h0,h1,h2⟩,hv⟩:=hv;refine .inl ⟨_,[],[(k,.arr e0 i.size rows)],hv,by simpa using hk,semStep_val _ fun c σ h' a w hs hrf hp=>?_⟩;have hk':=hrf (k,.arr e0 i.size rows) (by simp);have e1:=hp x (by simp[ho,Op.operands]);rw[hx] at e1;unfold PRep DRep at e1;obtain⟨g,m,e2,e3⟩:=e1;obtain⟨hz,hrl,ob,n',e4,e5⟩:=hs.hp k _ hk';rw[e2] at e4;cases e4;obtain⟨e5,cur,e6,e7,e8⟩:=e5;have ha:=optRep_bound (opt_rep (σ:=σ) (F:=fz c σ h' w) (w:=w) lo fun y hy=>hp y (by subst hy;simp[ho,Op.operands])) hl;have hb:=optRep_bound (opt_rep (σ:=σ) (F:=fz c σ h' w) (w:=w) hi fun y hy=>hp y (by subst hy;simp[ho,Op.operands])) hhi;have hrun:=run_bounds (P:=P) (w:=w) false n n (lo.map a.eval) (hi.map a.eval) l hh ha hb h0 h1 h2 (Nat.le_refl _);refine⟨.slice (some (if n=l.toNat then ⟨g,0,none⟩ else (⟨g,0,none⟩:Addr).add (l.toNat*i.size))) (hh.toNat - l.toNat) (n - l.toNat),?_,?_⟩
    ·simp[execOp,ho,e3,Instr.sliceAt,Instr.sureAddr,run_underlying hu,hrun,sizeOf,typeInfo,hi']
    ·have hcs:n*i.size<=cur.size:=by rw[<- hn];exact e7
     have hmax:n<=maxLen:=by rw[maxLen_val];omega
     unfold PRep DRep;refine⟨hz,.inr ?_⟩;by_cases hc:n=l.toNat
     ·rw[if_pos hc];exact⟨g,m,0,n - l.toNat,cur,(0,0),e2,rfl,by omega,by omega,e6,by rw[hc,sub_self];omega,fun q=>by omega⟩
     ·rw[if_neg hc];have e9:l.toNat*i.size+(n - l.toNat)*i.size=n*i.size:=by rw[<- add_mul];congr 1;omega
      exact⟨g,m,l.toNat*i.size,n - l.toNat,cur,(0,0),e2,by simp[Addr.add_mid],by omega,by omega,e6,by omega,fun _=>rfl⟩
   ·exact hv.elim
  ·exact hv.elim
 ·obtain⟨v,h1,h2⟩:=sliceP_out hv;refine outc_val h1 fun σ F a w hp=>?_;obtain⟨z,h3,h4⟩:=h2 σ F w _ _ _ (hp x (by simp[ho,Op.operands])) (opt_rep lo fun y hy=>hp y (by subst hy;simp[ho,Op.operands])) (opt_rep hi fun y hy=>hp y (by subst hy;simp[ho,Op.operands]));exact⟨z,by simp[execOp,ho,h3],h4⟩
theorem idxAddrP2_out {P:Program} {o:Oper} {e:Operand->PV} {h:Hp} {t:TypeId} {x i:Operand} {K:OpK} {X:Value->Hp->Prop} (ho:o.op=.indexAddr t x i)
  (hv:idxAddrP2 P h t (e x) (e i) K):Outc P o e h K X:=by
 unfold idxAddrP2 at hv;split at hv
 ·rename_i k off hx;split at hv
  ·rename_i kk n hn;split at hv
   ·rename_i e0 s rows q0 hk;obtain⟨m,el,ti,hu,hi',hv⟩:=tyArr_out hv;split at hv
    ·rename_i hs1;obtain rfl:=eq_of_beq_eq_true hs1;obtain rfl:=eq_of_beq_eq_true q0;obtain⟨⟨h0,h1⟩,hv⟩:=hv;refine .inl ⟨_,[],[(k,.arr e0 ti.size rows)],hv,by simpa using hk,semStep_val _ fun c σ h' a w hs hrf hp=>?_⟩;have e1:=hp x (by simp[ho,Op.operands]);have e4:=hp i (by simp[ho,Op.operands]);rw[hx] at e1;rw[hn] at e4;unfold PRep DRep at e1;obtain⟨g,m',e2,e3⟩:=e1;refine⟨.pointer (some ⟨g,n.toNat*ti.size,none⟩),?_,?_⟩
     ·simp[execOp,ho,e3,rep_v e4,Instr.indexAt,Instr.sureAddr,asIntOf,run_underlying hu,sizeOf,typeInfo,hi',h0,h1,Addr.add_mid]
     ·unfold PRep DRep;exact⟨g,m',e2,rfl⟩
    ·exact hv.elim
   ·exact hv.elim
  ·exact hv.elim
 ·rename_i g off hx;split at hv
  ·rename_i kk n hn;obtain⟨m,el,ti,hu,hi',hv⟩:=tyArr_out hv;obtain⟨⟨h0,h1⟩,hv⟩:=hv;refine outc_val hv fun σ F a w hp=>?_;have e1:=hp x (by simp[ho,Op.operands]);have e4:=hp i (by simp[ho,Op.operands]);rw[hx] at e1;rw[hn] at e4;refine⟨.pointer (some ⟨g,off+n.toNat*ti.size,none⟩),?_,?_⟩
   ·simp[execOp,ho,rep_v e1,rep_v e4,Instr.indexAt,Instr.sureAddr,asIntOf,run_underlying hu,sizeOf,typeInfo,hi',h0,h1,Addr.add_mid]
   ·unfold PRep DRep CRep;exact⟨rfl,rfl⟩
  ·exact hv.elim
 ·obtain⟨v,h1,h2⟩:=idxAddrP_out hv;refine outc_val h1 fun σ F a w hp=>?_;obtain⟨z,h3,h4⟩:=h2 σ F w _ _ (hp x (by simp[ho,Op.operands])) (hp i (by simp[ho,Op.operands]));exact⟨z,by simp[execOp,ho,h3],h4⟩
theorem bytes_of_rows {F:Fzn} {w:World} {cur:Array Value} {rows:List (List C)} {lo n:Nat} {bs:List UInt8} (hle:lo+n<=rows.length) (hrl:∀r∈rows,r.length=1)
  (hb:(rows.drop lo).take n=bs.map fun b=>[C.v (.int .u8 (b.toNat:Int))]) (h:CsRep F w rows.flatten (cur.toList.take rows.length)) :
  ∀j (hj:j<bs.length),cur[lo+j]? = some (.int .u8 (bs[j].toNat:Int)):=by
 have hbl:bs.length=n:=by
  have:=congrArg List.length hb;rw[length_map,length_take,length_drop] at this;omega
 intro j hj;have h1:((rows.drop lo).take n)[j]? = some [C.v (.int .u8 (bs[j].toNat:Int))]:=by rw[hb];simp[hj]
 rw[List.getElem?_take,if_pos (by omega),List.getElem?_drop] at h1;have h2:=row_rep (s:=1) hrl h1 (by simpa using h);rw[mul_one] at h2;obtain⟨u,us,h3,h4,h5⟩:=csRep_inv h2;unfold CRep at h4;obtain⟨rfl,_⟩:=h4;have h6:(((cur.toList.take rows.length).drop (lo+j)).take 1)[0]? = some (.int .u8 (bs[j].toNat:Int)):=by rw[h3];rfl
 rw[List.getElem?_take,if_pos zero_lt_one,List.getElem?_drop,List.getElem?_take,add_zero] at h6;split at h6
 ·simpa using h6
 ·cases h6
theorem convP3_out {P:Program} {o:Oper} {e:Operand->PV} {h:Hp} {s d:TypeId} {x:Operand} {K:OpK} {X:Value->Hp->Prop} (ho:o.op=.convert s d x) (hv:convP3 P h s d (e x) K):Outc P o e h K X:=by
 unfold convP3 at hv;split at hv
 ·rename_i k ke sz lo n hx;unfold arrStrP at hv;split at hv
  ·rename_i e0 s1 rows hk;split at hv
   ·rename_i el hsu hdu q1 q2;obtain rfl:=eq_of_beq_eq_true q1;obtain rfl:=eq_of_beq_eq_true q2;split at hv
    ·rename_i he;obtain⟨hle,bs,hbs,hv⟩:=hv;refine .inl ⟨_,[],[(k,.arr e0 1 rows)],hv,by simpa using hk,semStep_val _ fun c σ h' a w hs hrf hp=>?_⟩;have hk':=hrf (k,.arr e0 1 rows) (by simp);have e1:=hp x (by simp[ho,Op.operands]);rw[hx] at e1;unfold PRep DRep at e1;obtain⟨hz,hrl,ob,n',e4,e5⟩:=hs.hp k _ hk';have hbl:bs.length=n:=by
      have:=congrArg List.length hbs;rw[length_map,length_take,length_drop] at this;omega
     refine⟨.string ⟨bs.toArray⟩,?_,rep_str _⟩;have hex:∀(w w':World) (u:Value),(convert s d (a.eval x)).run P w=.ok u w'->(execOp a.eval o).run P w=.ok (.value u) w':=by
      intro w w' u hr;simp[execOp,ho,hr]
     refine hex w w _ ?_;obtain⟨_,⟨m,g1,hn0,g2⟩ | ⟨g,m,off,cap,cur,fr,g1,g2,g3,g4,g5,g6,g7⟩⟩:=e1
     ·obtain⟨b0,g2⟩:=g2;rw[g2];obtain rfl:bs=[]:=eq_nil_of_length_eq_zero (by omega);cases b0 with
      | none=>exact run_convert_bytes_nil w s el hsu he 0 0 d hdu|some ad=>exact run_convert_bytes_back w s d el ad 0 [] hsu he hdu fun j hj=>absurd hj (not_lt_zero _)
     ·rw[g1] at e4;cases e4;obtain⟨e5,cur',e6,e7,e8⟩:=e5;rw[e6] at g5;cases g5;rw[g2,<- hbl];refine run_convert_bytes_back w s d el ⟨g,off,none⟩ cap bs hsu he hdu fun j hj=>?_;have q1:=g7 (by omega);rw[mul_one] at q1;rw[Addr.add_mid,cell_of_row _ _ _ _ _ _ e6,q1];exact bytes_of_rows hle hrl hbs (by simpa using e8) j hj
    ·exact hv.elim
   ·exact hv.elim
  ·exact hv.elim
 ·exact convP2_out ho hv
theorem run_copy_str {P:Program} (w:World) (dT sT ty elem:TypeId) (g o dLen dCap:Nat) (z:ByteArray) (cur:Array Value) (t:TypeId)
  (hu:P.underlying dT=some (.slice elem)) (hs:(P.info? elem).map (·.size)=some 1)
  (hg:w.heap[g]? = some (.cells cur t (0,0))) (hfit:o+min z.size dLen<=cur.size) :
  (Builtin.copy_ #[dT,sT] ty #[.slice (some ⟨g,o,none⟩) dLen dCap,.string z]).run P w =
   .ok (goInt ((Nat.min z.size dLen:Nat):Int)) (w.setRow g (cur.toList.take o++((z.data.toList.take dLen).map fun b=>Value.int .u8 (b.toNat:Int))++cur.toList.drop (o+min z.size dLen)).toArray):=by
 have hl0:z.data.toList.length=z.size:=by simp
 have hlen:((z.data.toList.take dLen).map fun b=>Value.int .u8 (b.toNat:Int)).length=min z.size dLen:=by
  rw[length_map,length_take,hl0,min_comm]
 have hst:=run_storeCells_at (P:=P) g o t ((z.data.toList.take dLen).map fun b=>Value.int .u8 (b.toNat:Int)) 0 cur w hg (by rw[hlen];simpa using hfit) (by
  intro v hv;obtain⟨b,_,rfl⟩:=mem_map.1 hv;rfl)
 have hcells:((z.extract 0 (Nat.min z.size dLen)).data.map fun b=>Value.int .u8 (b.toNat:Int)).toList=(z.data.toList.take dLen).map fun b=>Value.int .u8 (b.toNat:Int):=by
  rw[Array.toList_map]
  congr 1
  have e1:(z.extract 0 (Nat.min z.size dLen)).data.toList=z.data.toList.take (Nat.min z.size dLen):=by simp[ByteArray.data_extract]
  rw[e1];apply List.ext_getElem?;intro j;rw[List.getElem?_take,List.getElem?_take];by_cases hj:j<dLen
  ·by_cases hz:j<z.size
   ·rw[if_pos (lt_min.2 ⟨hz,hj⟩),if_pos hj]
   ·rw[if_neg (fun h=>hz (lt_min.1 h).1),if_pos hj,List.getElem?_eq_none (by omega)]
  ·rw[if_neg (fun h=>hj (lt_min.1 h).2),if_neg hj]
 cases hq:P.info? elem with
 | none=>simp[hq] at hs|some i=>
  rw[hlen] at hst;simp only[add_zero] at hst;rw[<- hcells] at hst;simp[Builtin.copy_,run_underlying hu,Builtin.lenOf,Builtin.firstCells,sizeOf,typeInfo,hq,-Array.toList_map,-ByteArray.data_extract,hst];rw[hcells,map_take]
theorem splice_take {α:Type} (l v:List α) (lo R:Nat) (h:lo+v.length<=R) (hl:R<=l.length):(l.take lo++v++l.drop (lo+v.length)).take R=(l.take R).take lo++v++(l.take R).drop (lo+v.length):=by
 apply List.ext_getElem?;intro q;have q1:(l.take lo).length=lo:=by rw[length_take];omega
 have q2:((l.take R).take lo).length=lo:=by rw[length_take,length_take];omega
 rw[List.getElem?_take];by_cases c1:q<lo
 ·rw[if_pos (by omega),append_assoc,List.getElem?_append_left (by omega),append_assoc,List.getElem?_append_left (by omega)];rw[List.getElem?_take,List.getElem?_take,List.getElem?_take,if_pos c1,if_pos c1,if_pos (by omega)]
 ·by_cases c2:q<lo+v.length
  ·rw[if_pos (by omega),append_assoc,List.getElem?_append_right (by omega),List.getElem?_append_left (by omega),append_assoc,List.getElem?_append_right (by omega),List.getElem?_append_left (by omega),q1,q2]
  ·rw[append_assoc,List.getElem?_append_right (by omega),List.getElem?_append_right (by omega),append_assoc,List.getElem?_append_right (by omega),List.getElem?_append_right (by omega),q1,q2];rw[List.getElem?_drop,List.getElem?_drop,List.getElem?_take];rw[show lo+v.length+(q - lo - v.length)=q by omega]
theorem copyP_out {P:Program} {o:Oper} {e:Operand->PV} {h:Hp} {x y:Operand} {td ts:TypeId} {K:OpK} {X:Value->Hp->Prop} (ho:o.op=.call { callee:=.builtin .copy,args:=#[x,y],argTypes:=#[td,ts] })
  (hv:copyP P h td ts (e x) (e y) K):Outc P o e h K X:=by
 unfold copyP at hv;split at hv
 ·rename_i k ke sz lo n z hx hy;split at hv
  ·rename_i e0 s rows hk;obtain⟨el,i,hu,hi,hv'⟩:=tySlice_out hv;clear hv;have hv:=hv';clear hv';split at hv
   ·rename_i q0 q1 q2;have q0:=eq_of_beq_eq_true q0;obtain rfl:=eq_of_beq_eq_true q1;obtain rfl:=eq_of_beq_eq_true q2;obtain⟨hle,hv⟩:=hv;refine .inl ⟨_,_,[(k,.arr e0 1 rows)],hv,by simpa using hk,?_⟩;intro c σ h' a w hc hs hop hrf hfr next Q KK
    have hk':h' k=some (.arr e0 1 rows):=hrf (k,.arr e0 1 rows) (by simp);have hpx:=hop x (by simp[ho,Op.operands,Call.operands]);have hpy:=hop y (by simp[ho,Op.operands,Call.operands]);rw[hx] at hpx;rw[hy] at hpy;have hyv:=rep_v hpy;unfold PRep DRep at hpx;obtain⟨hz,hrl,ob,n',h1,h2⟩:=hs.hp k _ hk';obtain⟨bytes,hbytes⟩:∃bytes,bytes=(z.data.toList.take n).map fun b=>[C.v (.int .u8 (b.toNat:Int))]:=⟨_,rfl⟩;have hbl:bytes.length=min z.size n:=by
     rw[hbytes,length_map,length_take,show z.data.toList.length=z.size by simp,min_comm]
    have hnrl:∀r∈rows.take lo++bytes++rows.drop (lo+min z.size n),r.length=1:=by
     intro r hr;rcases mem_append.1 hr with hr | hr
     ·rcases mem_append.1 hr with hr | hr
      ·exact hrl r (mem_of_mem_take hr)
      ·rw[hbytes] at hr;obtain⟨b,_,rfl⟩:=mem_map.1 hr;rfl
     ·exact hrl r (mem_of_mem_drop hr)
    have hnl:(rows.take lo++bytes++rows.drop (lo+min z.size n)).length=rows.length:=by
     rw[length_append,length_append,length_take,length_drop,hbl];omega
    obtain⟨_,⟨m,g1,hn0,g2⟩ | ⟨g,m,off,cap,cur,fr,g1,g2,g3,g4,g5,g6,g7⟩⟩:=hpx
    ·have hrun:(execOp a.eval o).run P w=.ok (.value (goInt 0)) w:=by
      cases hq:P.info? el with
      | none=>rw[hq] at hi;cases hi
      | some i2=>
       obtain⟨b0,g2⟩:=g2;have hm0:min z.size 0=0:=Nat.min_zero _;cases b0<;>simp[execOp,ho,resolve,invoke,builtin,g2,hyv,Builtin.copy_,run_underlying hu,Builtin.lenOf,Builtin.firstCells,sizeOf,typeInfo,hq,storeCells]
     rw[g1] at h1;cases h1;have hr0:rows=[]:=h2;subst hr0;have hn':min z.size n=0:=by rw[hn0,Nat.min_zero]
     have hb0:bytes=[]:=eq_nil_of_length_eq_zero (by omega);have hsame:upd h' k (some (.arr e0 1 (([]:List (List C)).take lo++bytes++([]:List (List C)).drop (lo+min z.size n))))=h':=by
      funext q
      by_cases hq:q=k
      ·subst hq;rw[upd_same,hk',hb0];simp
      ·rw[upd_ne _ _ hq]
     unfold Oper.wp;rw[hrun];have hgo:Evo σ σ (fz c σ h' w) (fz c σ (Dl.app h' [(k,some (.arr e0 1 (([]:List (List C)).take lo++bytes++([]:List (List C)).drop (lo+min z.size n))))]) w) w w:=by
      show Evo σ σ (fz c σ h' w) (fz c σ (upd h' k (some (.arr e0 1 (([]:List (List C)).take lo++bytes++([]:List (List C)).drop (lo+min z.size n))))) w) w w;rw[hsame];exact Evo.refl
     rw[<- hbytes] at KK;refine KK _ σ w hgo ?_ ?_ (fun _ _ h=>h)
     ·show SW c σ (upd h' k (some (.arr e0 1 (([]:List (List C)).take lo++bytes++([]:List (List C)).drop (lo+min z.size n))))) w;rw[hsame];exact hs
     ·rw[hn'];exact rep_int _ _
    ·rw[g1] at h1;cases h1;obtain⟨h2,cur',h3,h5,h4⟩:=h2;rw[h3] at g5;cases g5;have hmin:min z.size n<=n:=Nat.min_le_right _ _;have hoff:0<cap->off=lo:=fun q=>by have:=g7 q;omega
     have hrun0:=run_copy_str (P:=P) w td ts o.type el g off n cap z cur ke hu (by rw[hi];simp[q0]) h3 (by omega);have hrun:(execOp a.eval o).run P w=.ok (.value (goInt ((Nat.min z.size n:Nat):Int))) (w.setRow g (cur.toList.take off++((z.data.toList.take n).map fun b=>Value.int .u8 (b.toNat:Int))++cur.toList.drop (off+min z.size n)).toArray):=by
      simp[execOp,ho,resolve,invoke,builtin,g2,hyv,hrun0]
     obtain⟨cur2,hcur2⟩:∃cur2,(cur.toList.take off++((z.data.toList.take n).map fun b=>Value.int .u8 (b.toNat:Int))++cur.toList.drop (off+min z.size n)).toArray=cur2:=⟨_,rfl⟩;rw[hcur2] at hrun;have hvl:((z.data.toList.take n).map fun b=>Value.int .u8 (b.toNat:Int)).length=min z.size n:=by
      rw[length_map,length_take,show z.data.toList.length=z.size by simp,min_comm]
     have hsz:cur2.size=cur.size:=by
      rw[<- hcur2];simp only[size_toArray,length_append,length_take,length_drop,Array.length_toList,hvl];omega
     unfold Oper.wp;rw[hrun];rw[<- hbytes] at KK;have ev:=evo_set (hb':=.arr ke 1 (rows.take lo++bytes++rows.drop (lo+min z.size n))) hs hc hk' g1 (fun _ q=>q) h3 hsz;refine KK _ σ _ ev (sw_set hs hc hk' g1 (fun _ q=>q) h3 hsz ⟨hz,hnrl,some g,n',g1,h2,cur2,setRow_heap w g cur cur2 ke _ h3,by rw[hnl,hsz];exact h5,?_⟩) (rep_int _ _) (fun _ _ h=>h);refine CsRep.keeps ev.keeps _ _ ?_;have hc2:cur2.toList=cur.toList.take off++((z.data.toList.take n).map fun b=>Value.int .u8 (b.toNat:Int))++cur.toList.drop (off+min z.size n):=by rw[<- hcur2]
     rw[hnl,hc2];have hfl:∀(l:List (List C)),(∀r∈l,r.length=1)->l.flatten.length=l.length:=fun l hl=>by rw[flatten_len hl,mul_one]
     have hft:∀q,(rows.take q).flatten=rows.flatten.take q/\(rows.drop q).flatten=rows.flatten.drop q:=by
      intro q;have e1:rows.flatten=(rows.take q).flatten++(rows.drop q).flatten:=by rw[<- flatten_append,take_append_drop]
      have e2:=hfl (rows.take q) fun r hr=>hrl r (mem_of_mem_take hr);have e3:=hfl (rows.drop q) fun r hr=>hrl r (mem_of_mem_drop hr);by_cases hq:q<=rows.length
      ·have e4:(rows.take q).flatten.length=q:=by rw[e2,length_take];omega
       rw[e1,take_left' e4,drop_left' e4];exact⟨rfl,rfl⟩
      ·have e5:=hfl rows hrl;rw[take_of_length_le (l:=rows) (by omega),drop_of_length_le (l:=rows) (by omega),take_of_length_le (by omega),drop_of_length_le (by omega)];exact⟨rfl,rfl⟩
     have hbr:CsRep (fz c σ h' w) w bytes.flatten ((z.data.toList.take n).map fun b=>Value.int .u8 (b.toNat:Int)):=by
      rw[hbytes];exact byteRows_rep _
     by_cases hcap:0<cap
     ·have hsp:=splice_take cur.toList ((z.data.toList.take n).map fun b=>Value.int .u8 (b.toNat:Int)) lo (rows.length*1) (by rw[hvl];omega) (by rw[Array.length_toList];omega);rw[hvl] at hsp;rw[hoff hcap,hsp,flatten_append,flatten_append,(hft lo).1,(hft (lo+min z.size n)).2];exact CsRep.append (CsRep.append (h4.take _) hbr) (h4.drop _)
     ·have hn0:n=0:=by omega
      have hm0:min z.size n=0:=by omega
      have hb0:bytes=[]:=eq_nil_of_length_eq_zero (by omega);have hv0:(z.data.toList.take n).map (fun b=>Value.int .u8 (b.toNat:Int))=[]:=eq_nil_of_length_eq_zero (by rw[hvl];exact hm0);rw[hb0,hv0,hm0,add_zero,add_zero,List.append_nil,List.append_nil,take_append_drop,take_append_drop];exact h4
   ·exact hv.elim
  ·exact hv.elim
 ·exact copyCutP_out ho hv
end Go.Proofs.Ytdjbckknghddpaa.Pm
namespace Go.Proofs.Ytdjbckknghddpaa.Pm
open Go.RowKit
theorem setBlock_other (w:World) (g:Nat) (o:Obj) {b:Nat} (hb:b≠g):({ w with heap:=w.heap.setIfInBounds g o }:World).heap[b]? = w.heap[b]?:=by
 simp[Ne.symm hb]
theorem evo_mset {c:Ctx} {σ:Sg} {h:Hp} {w:World} (hs:SW c σ h w) {k g n:Nat} {l l':List (ByteArray×Value)} {es:Array MapEntry} {clock:Nat} (hk:h k=some (.mp l)) (hσ:σ k=some (some g,n))
  (h3:w.heap[g]? = some (.map es clock)) (es':Array MapEntry) (clock':Nat) :
  Evo σ σ (fz c σ h w) (fz c σ (upd h k (some (.mp l'))) { w with heap:=w.heap.setIfInBounds g (.map es' clock') }) w { w with heap:=w.heap.setIfInBounds g (.map es' clock') }:=by
 have hsz:({ w with heap:=w.heap.setIfInBounds g (.map es' clock') }:World).heap.size=w.heap.size:=by simp
 refine⟨fun _ _ h=>h,⟨fun b o hf=>?_,fun b o hf=>?_⟩,fun g2 cur2 e2 fr2 hg2=>?_⟩
 ·rcases hf with hf | ⟨f1,f2,f3⟩
  ·exact .inl hf
  ·refine .inr ⟨f1,by rw[hsz];exact f2,fun k2 n2 hb2 hk2 hσ2=>?_⟩;by_cases e:k2=k
   ·subst e;rw[upd_same] at hk2;cases hk2;exact f3 k2 n2 (.mp l) hk hσ2
   ·rw[upd_ne _ _ e] at hk2;exact f3 k2 n2 hb2 hk2 hσ2
 ·unfold World.cell?;by_cases e:b=g
  ·subst e;have hlt:=(Array.getElem?_eq_some_iff.1 h3).1;have e1:({ w with heap:=w.heap.setIfInBounds b (.map es' clock') }:World).heap[b]? = some (.map es' clock'):=by simp[hlt]
   rw[e1,h3]
  ·rw[setBlock_other w g _ e]
 ·by_cases e:g2=g
  ·subst e;rw[h3] at hg2;cases hg2
  ·exact⟨cur2,fr2,by rw[setBlock_other w g _ e];exact hg2,rfl⟩
theorem sw_mset {c:Ctx} {σ:Sg} {h:Hp} {w:World} (hs:SW c σ h w) {k g n:Nat} {l l':List (ByteArray×Value)} {es:Array MapEntry} {clock:Nat} (hk:h k=some (.mp l)) (hσ:σ k=some (some g,n))
  (h3:w.heap[g]? = some (.map es clock)) (es':Array MapEntry) (clock':Nat) (he:es'.toList.map (fun e=>(e.key,e.val))=l'.map (fun p=>(Value.string p.1,p.2))) :
  SW c σ (upd h k (some (.mp l'))) { w with heap:=w.heap.setIfInBounds g (.map es' clock') }:=by
 have hown:=(hb_block (hs.hp k _ hk) hσ).2;have hlt:=(hb_block (hs.hp k _ hk) hσ).1;have ev:=evo_mset (l':=l') hs hk hσ h3 es' clock';refine⟨hs.os,hs.tape,hs.output,by simpa using hs.size,fun b b1 b2=>?_,fun k2 hb2 hk2=>?_,fun k1 k2 g2 n1 n2 a1 a2 a3 a4=>?_,hs.kept.trans ev.keeps,hs.shape.trans ev.shape,hs.sg0⟩
 ·have hbg:b≠g:=by
   rintro rfl;rcases hown with h2 | h2
   ·omega
   ·exact b2 h2
  rw[setBlock_other w g _ hbg];exact hs.block b b1 b2
 ·by_cases e:k2=k
  ·subst e;rw[upd_same] at hk2;cases hk2;exact⟨g,n,es',clock',hσ,hown,by simp[hlt],he⟩
  ·rw[upd_ne _ _ e] at hk2;refine (hs.hp k2 hb2 hk2).evo ev fun g2 n2 hg2=>setBlock_other w g _ fun e2=>e ?_;subst e2;exact hs.inj k2 k g2 n2 n (by rw[hk2];simp) (by rw[hk];simp) hg2 hσ
 ·have fx:∀q,upd h k (some (.mp l')) q≠none->h q≠none:=by
   intro q hq;by_cases e:q=k
   ·subst e;rw[hk];simp
   ·rwa [upd_ne _ _ e] at hq
  exact hs.inj k1 k2 g2 n1 n2 (fx _ a1) (fx _ a2) a3 a4
theorem makeMapP_out {P:Program} {o:Oper} {key:Nat} {e:Operand->PV} {h:Hp} {t:TypeId} {K:OpK} {X:Value->Hp->Prop} (ho:o.op=.makeMap t none) (hv:makeMapP key K):Outc P o e h K X:=by
 refine .inl ⟨_,_,[],hv,by simp,?_⟩;intro c σ h' a w hc hs hx hrf hfr next Q KK
 have h0:σ key=none:=hfr key (by simp[Dl.keys]) (by simp);have hrun:(execOp a.eval o).run P w=.ok (.value (.map (some w.heap.size))) (w.alloc (.map #[] 0)):=by
  simp[execOp,ho,Instr.makeMap]
 unfold Oper.wp;rw[hrun];have ev:=evo_new hs h0 (.map #[] 0) 0 (.mp []);refine KK _ (upd σ key (some (some w.heap.size,0))) _ ev (sw_new hs h0 _ 0 _ ?_) ?_ ?_
 ·exact⟨w.heap.size,0,#[],0,upd_same ..,.inl hs.size,heap_alloc_new w _,rfl⟩
 ·unfold PRep DRep;exact⟨w.heap.size,0,upd_same ..,rfl⟩
 ·intro k hk hn;rw[upd_ne _ _ (by simpa [Dl.keys] using hk)];exact hn
theorem ba_eq (s k:ByteArray):(s==k)=decide (s=k):=by
 cases s with | mk a=>cases k with | mk b=>
 show (a==b)=_;by_cases h:a=b
 ·subst h;simp
 ·rw[decide_eq_false (by intro e;cases e;exact h rfl)];simpa using h
theorem run_checkKey {P:Program} {w:World} {kt:TypeId} (hkt:P.underlying kt=some .string) (b:Bool) (s:ByteArray):(Instr.checkKey b 10000 kt (.string s)).run P w=.ok () w:=by
 rw[show (10000:Nat)=9999+1 from rfl,Instr.checkKey];simp[run_underlying hkt]
theorem tupRep2 (σ:Sg) (F:Fzn) (w:World) (a:PV) (z:Value) (b:Bool) (h:PRep σ F w a z):PRep σ F w (.tup [a,pBool b]) (.tuple #[z,.bool b]):=by
 unfold PRep;exact⟨[z,.bool b],rfl,by unfold PsRep;exact⟨h,by unfold PsRep;exact⟨rep_bool b,by unfold PsRep;trivial⟩⟩⟩
theorem isStr_out {P:Program} {t:TypeId} (h:isStr P t=true):P.underlying t=some .string:=by
 unfold isStr at h;split at h
 ·rename_i hu;exact hu
 ·cases h
theorem findNow_str (s:ByteArray):∀(es:List MapEntry) (l:List (ByteArray×Value)) (i:Nat),es.map (fun e=>(e.key,e.val))=l.map (fun p=>(Value.string p.1,p.2))->
  (mpGet l s=none/\Instr.findNow .string (.string s) es i=some none)\/∃j e v,mpGet l s=some v/\Instr.findNow .string (.string s) es i=some (some (i+j,v))/\es[j]? = some e/\e.key=.string s/\e.val=v
 | [],[],i,_=>.inl ⟨rfl,rfl⟩|[],_::_,i,h=>by simp at h
 | _::_,[],i,h=>by simp at h
 | e::es,(k,v)::l,i,h=>by
  simp only[map_cons,List.cons.injEq,Prod.mk.injEq] at h;obtain⟨⟨hk,hv⟩,hr⟩:=h;by_cases hsk:s=k
  ·subst hsk;refine .inr ⟨0,e,v,?_,?_,rfl,hk,hv⟩
   ·unfold mpGet;simp
   ·unfold Instr.findNow;rw[hk];simp[Instr.sameNow,hv,ba_eq]
  ·have hb:(s==k)=false:=by
    rw[ba_eq];exact decide_eq_false hsk
   have e1:mpGet ((k,v)::l) s=mpGet l s:=by show (bif decide (s=k) then _ else _)=_;rw[decide_eq_false hsk];rfl
   have e2:Instr.findNow .string (.string s) (e::es) i=Instr.findNow .string (.string s) es (i+1):=by
    show (match Instr.sameNow .string (.string s) e.key with | some true=>_ | some false=>_ | none=>_)=_;rw[hk];simp[Instr.sameNow,hb]
   rw[e1,e2];rcases findNow_str s es l (i+1) hr with ⟨h1,h2⟩ | ⟨j,e0,v0,h1,h2,h3,h4,h5⟩
   ·exact .inl ⟨h1,h2⟩
   ·exact .inr ⟨j+1,e0,v0,h1,by rw[h2];congr 3;omega,by simpa using h3,h4,h5⟩
theorem valPV_rep {σ:Sg} {F:Fzn} {w:World} {v:Value} (h:plainV v=true):PRep σ F w (valPV v) v:=by
 cases v with
 | agg cs=>
  unfold valPV PRep;exact⟨cs.toList,by simp,allOne_rep h⟩
 | tuple _=>cases h
 | _=>unfold valPV PRep DRep CRep;exact⟨rfl,h⟩
theorem mpGet_mem:∀{l:List (ByteArray×Value)} {s:ByteArray} {v:Value},mpGet l s=some v->∃p∈l,p.2=v
 | [],s,v,h=>by cases h
 | (k,x)::l,s,v,h=>by
  unfold mpGet at h;by_cases hsk:s=k
  ·rw[decide_eq_true hsk,cond_true] at h;cases h;exact⟨(k,x),mem_cons_self ..,rfl⟩
  ·rw[decide_eq_false hsk,cond_false] at h;obtain⟨p,hp,hv⟩:=mpGet_mem h;exact⟨p,mem_cons_of_mem _ hp,hv⟩
theorem lookupP_out {P:Program} {o:Oper} {e:Operand->PV} {h:Hp} {t:TypeId} {x i:Operand} {ok:Bool} {K:OpK} {X:Value->Hp->Prop} (ho:o.op=.lookup t x i ok) (hv:lookupP P h t (e x) (e i) ok K):Outc P o e h K X:=by
 unfold lookupP at hv;split at hv
 ·rename_i k s hx hi;split at hv
  ·rename_i l kt vt hk hu;split at hv
   ·rename_i ti hkt hti;have hkt:=isStr_out hkt;split at hv
    ·rename_i z hz;obtain⟨⟨hpz,hpl⟩,hv⟩:=hv;have look:∀(c:Ctx) (σ:Sg) (h':Hp) (a:Act) (w:World),SW c σ h' w->h' k=some (.mp l)->(∀x∈o.op.operands,PRep σ (fz c σ h' w) w (e x) (a.eval x))->
       (execOp a.eval o).run P w=.ok (.value (match mpGet l s with | some v=>if ok then .tuple #[v,.bool true] else v | none=>if ok then .tuple #[z,.bool false] else z)) w:=by
      intro c σ h' a w hs hk' hop;have e1:=hop x (by simp[ho,Op.operands]);have e2:=hop i (by simp[ho,Op.operands]);rw[hx] at e1;rw[hi] at e2;unfold PRep DRep at e1;obtain⟨g,n,e3,e4⟩:=e1;obtain⟨g',n',es,cl,e5,e6,e7,e8⟩:=hs.hp k _ hk';rw[e3] at e5;cases e5;have hck:=run_checkKey (w:=w) hkt es.isEmpty s;rcases findNow_str s es.toList l 0 e8 with ⟨h1,h2⟩ | ⟨j,e0,v,h1,h2,h3,h4,h5⟩
      ·rw[h1];have hfk:(Instr.findKey kt (.string s) es.toList).run P w=.ok none w:=by
        simp[Instr.findKey,run_underlying hkt,h2]
       cases ok<;>simp[execOp,ho,e4,rep_v e2,Instr.lookup,run_underlying hu,MapKept.run_getObj_map e7,hck,hfk,zeroValue,typeInfo,hti,hz]
      ·rw[h1];have hfk:(Instr.findKey kt (.string s) es.toList).run P w=.ok (some (0+j,v)) w:=by
        simp[Instr.findKey,run_underlying hkt,h2]
       cases ok<;>simp[execOp,ho,e4,rep_v e2,Instr.lookup,run_underlying hu,MapKept.run_getObj_map e7,hck,hfk]
     cases ok with
     | true=>
      obtain⟨hit,miss⟩:=hv;cases hg:mpGet l s with
      | some v=>
       obtain⟨p,hp,hpv⟩:=mpGet_mem hg;refine .inl ⟨_,[],[(k,.mp l)],hit v hg,by simpa using hk,semStep_val _ fun c σ h' a w hs hrf hop=>⟨_,look c σ h' a w hs (hrf (k,.mp l) (by simp)) hop,?_⟩⟩;rw[hg];exact tupRep2 σ _ w (valPV v) v true (valPV_rep (by rw[<- hpv];exact hpl p hp))
      | none=>
       refine .inl ⟨_,[],[(k,.mp l)],miss hg,by simpa using hk,semStep_val _ fun c σ h' a w hs hrf hop=>⟨_,look c σ h' a w hs (hrf (k,.mp l) (by simp)) hop,?_⟩⟩;rw[hg];exact tupRep2 σ _ w (valPV z) z false (valPV_rep hpz)
     | false=>
      obtain⟨hit,miss⟩:=hv;cases hg:mpGet l s with
      | some v=>
       obtain⟨p,hp,hpv⟩:=mpGet_mem hg;refine .inl ⟨_,[],[(k,.mp l)],hit v hg,by simpa using hk,semStep_val _ fun c σ h' a w hs hrf hop=>⟨_,look c σ h' a w hs (hrf (k,.mp l) (by simp)) hop,?_⟩⟩;rw[hg];exact valPV_rep (by rw[<- hpv];exact hpl p hp)
      | none=>
       refine .inl ⟨_,[],[(k,.mp l)],miss hg,by simpa using hk,semStep_val _ fun c σ h' a w hs hrf hop=>⟨_,look c σ h' a w hs (hrf (k,.mp l) (by simp)) hop,?_⟩⟩;rw[hg];exact valPV_rep hpz
    ·exact hv.elim
   ·exact hv.elim
  ·exact hv.elim
 ·exact hv.elim
theorem mapPut_entries (s:ByteArray) (v:Value):∀(es:List MapEntry) (l:List (ByteArray×Value)),es.map (fun e=>(e.key,e.val))=l.map (fun p=>(Value.string p.1,p.2))->
  (mpGet l s=none->∀b,(es++[(⟨.string s,v,b⟩:MapEntry)]).map (fun e=>(e.key,e.val))=(mpPut l s v).map (fun p=>(Value.string p.1,p.2)))/\
  ∀(j:Nat) (x:Value),(Instr.findNow .string (.string s) es 0=some (some (j,x))->(es.modify j fun e=>{ e with key:=.string s,val:=v }).map (fun e=>(e.key,e.val))=(mpPut l s v).map (fun p=>(Value.string p.1,p.2)))
 | [],[],_=>⟨fun _ b=>rfl,fun j x h=>by cases h⟩|[],_::_,h=>by simp at h
 | _::_,[],h=>by simp at h
 | e::es,(k,y)::l,h=>by
  simp only[map_cons,List.cons.injEq,Prod.mk.injEq] at h;obtain⟨⟨hk,hv⟩,hr⟩:=h;obtain⟨ih1,ih2⟩:=mapPut_entries s v es l hr;by_cases hsk:s=k
  ·subst hsk;refine⟨fun hn=>?_,fun j x hf=>?_⟩
   ·unfold mpGet at hn;simp at hn
   ·have:Instr.findNow .string (.string s) (e::es) 0=some (some (0,e.val)):=by unfold Instr.findNow;rw[hk];simp[Instr.sameNow,ba_eq]
    rw[this] at hf;cases hf;unfold mpPut;simp[hr]
  ·have hb:(s==k)=false:=by
    rw[ba_eq];exact decide_eq_false hsk
   have e1:mpGet ((k,y)::l) s=mpGet l s:=by show (bif decide (s=k) then _ else _)=_;rw[decide_eq_false hsk];rfl
   have e3:mpPut ((k,y)::l) s v=(k,y)::mpPut l s v:=by show (bif decide (s=k) then _ else _)=_;rw[decide_eq_false hsk];rfl
   have e2:Instr.findNow .string (.string s) (e::es) 0=Instr.findNow .string (.string s) es 1:=by
    show (match Instr.sameNow .string (.string s) e.key with | some true=>_ | some false=>_ | none=>_)=_;rw[hk];simp[Instr.sameNow,hb]
   rw[e1,e3];refine⟨fun hn b=>?_,fun j x hf=>?_⟩
   ·have:=ih1 hn b;rw[cons_append,map_cons,map_cons,this,hk,hv]
   ·rw[e2] at hf;rcases findNow_str s es l 1 hr with ⟨h1,h2⟩ | ⟨q,e0,v0,h1,h2,h3,h4,h5⟩
    ·rw[h2] at hf;cases hf
    ·rw[h2] at hf;cases hf;rcases findNow_str s es l 0 hr with ⟨g1,g2⟩ | ⟨q',e0',v0',g1,g2,g3,g4,g5⟩
     ·rw[g1] at h1;cases h1
     ·have hqq:q'=q:=by
       have shift:∀(es:List MapEntry) (i j x),Instr.findNow .string (.string s) es i=some (some (j,x))->Instr.findNow .string (.string s) es (i+1)=some (some (j+1,x)):=by
        intro es;induction es with
        | nil=>intro i j x h;cases h
        | cons a es ih=>
         intro i j x h;unfold Instr.findNow at h ⊢;split at h
         ·cases h;rfl
         ·exact ih _ _ _ h
         ·cases h
       have:=shift es 0 _ _ g2;rw[h2] at this;simp only[Option.some.injEq,Prod.mk.injEq] at this;omega
      subst hqq;have:=ih2 (0+q') v0' g2;rw[show 1+q'=(0+q')+1 by omega,List.modify_succ_cons,map_cons,this,map_cons,hk,hv]
theorem pvVal_out {x:PV} {K:Value->Prop} (h:pvVal x K):∃v,K v/\∀(σ:Sg) (F:Fzn) (w:World) (u:Value),PRep σ F w x u->u=v:=by
 unfold pvVal at h;split at h
 ·exact⟨_,h,fun σ F w u hu=>rep_v hu⟩
 ·split at h
  ·rename_i l vs hq;refine⟨_,h,fun σ F w u hu=>?_⟩;unfold PRep at hu;obtain⟨us,rfl,hu⟩:=hu;rw[plainDs_out hq hu]
  ·exact h.elim
 ·exact h.elim
theorem mapPutP_out {P:Program} {o:Oper} {e:Operand->PV} {h:Hp} {t:TypeId} {x i y:Operand} {K:OpK} {X:Value->Hp->Prop} (ho:o.op=.mapUpdate t x i y\/o.op=.insert t x i y) (hv:mapPutP P h t (e x) (e i) (e y) K):Outc P o e h K X:=by
 have hmem:∀q,q=x\/q=i\/q=y->q∈o.op.operands:=by
  intro q hq;rcases ho with ho | ho<;>rw[ho]<;>simp only[Op.operands]<;>rcases hq with rfl | rfl | rfl<;>simp
 unfold mapPutP at hv;split at hv
 ·rename_i k s hx hi;split at hv
  ·rename_i l kt vt hk hu;split at hv
   ·rename_i hkt;have hkt:=isStr_out hkt;obtain⟨v,hv,hyv⟩:=pvVal_out hv;refine .inl ⟨_,_,[(k,.mp l)],hv,by simpa using hk,?_⟩;intro c σ h' a w hc hs hop hrf hfr next Q KK
    have hk':h' k=some (.mp l):=hrf (k,.mp l) (by simp);have e1:=hop x (hmem x (.inl rfl));have e2:=hop i (hmem i (.inr (.inl rfl)));have e0:=hyv _ _ _ _ (hop y (hmem y (.inr (.inr rfl))));rw[hx] at e1;rw[hi] at e2;unfold PRep DRep at e1;obtain⟨g,n,e3,e4⟩:=e1;obtain⟨g',n',es,cl,e5,e6,e7,e8⟩:=hs.hp k _ hk';rw[e3] at e5;cases e5;have hck:=run_checkKey (w:=w) hkt false s;obtain⟨p1,p2⟩:=mapPut_entries s v es.toList l e8;have fin:∀(es':Array MapEntry) (cl':Nat),es'.toList.map (fun e=>(e.key,e.val))=(mpPut l s v).map (fun p=>(Value.string p.1,p.2))->
      (Instr.mapUpdate t (.map (some g)) (.string s) v).run P w=.ok () { w with heap:=w.heap.setIfInBounds g (.map es' cl') }->o.wp P a w next Q:=by
     intro es' cl' he hr;have hrun:(execOp a.eval o).run P w=.ok .skip { w with heap:=w.heap.setIfInBounds g (.map es' cl') }:=by
      rcases ho with ho | ho<;>simp[execOp,ho,e4,rep_v e2,e0,hr]
     unfold Oper.wp;rw[hrun];have ev:=evo_mset (l':=mpPut l s v) hs hk' e3 e7 es' cl';exact KK undef σ _ ev (sw_mset hs hk' e3 e7 es' cl' he) (by unfold PRep;exact⟨[],rfl,by unfold PsRep;trivial⟩) (fun _ _ h=>h)
    rcases findNow_str s es.toList l 0 e8 with ⟨h1,h2⟩ | ⟨j,e9,v0,h1,h2,h3,h4,h5⟩
    ·have hfk:(Instr.findKey kt (.string s) es.toList).run P w=.ok none w:=by
      simp[Instr.findKey,run_underlying hkt,h2]
     refine fin (es.push ⟨.string s,v,cl⟩) (cl+1) (by rw[Array.toList_push];exact p1 h1 cl) ?_;simp[Instr.mapUpdate,run_underlying hu,MapKept.run_getObj_map e7,hck,hfk,MapKept.run_setObj_map _ e7]
    ·have hfk:(Instr.findKey kt (.string s) es.toList).run P w=.ok (some (0+j,v0)) w:=by
      simp[Instr.findKey,run_underlying hkt,h2]
     have hje:es[0+j]? = some e9:=by rw[zero_add,<- Array.getElem?_toList];exact h3
     refine fin (es.modify (0+j) fun e=>{ e with key:=.string s,val:=v }) cl (by rw[Array.toList_modify];exact p2 (0+j) v0 h2) ?_;have hst:(Instr.keyThatStays (.string s) (.string s)).run P w=.ok (.string s) w:=by
      rw[Instr.keyThatStays,show (10000:Nat)=9999+1 from rfl];simp[Instr.sameBits,ba_eq]
     simp only[Instr.mapUpdate,run_underlying hu,MapKept.run_getObj_map e7,hck,hfk,MapKept.run_setObj_map _ e7,hje,map_some,getD_some,h4,hst,Sem.run_bind,Result.andThen_ok]
   ·exact hv.elim
  ·exact hv.elim
 ·exact hv.elim
theorem cutP0_out {P:Program} {o:Oper} {e:Operand->PV} {h:Hp} {t:TypeId} {x m:Operand} {lo hi:Option Operand} {K:OpK} {X:Value->Hp->Prop} (ho:o.op=.slice t x lo hi (some m))
  (hv:cutP0 P t (e x) (lo.map e) (hi.map e) (e m) fun v=>K v [] []):Outc P o e h K X:=by
 unfold cutP0 at hv;split at hv
 ·rename_i k1 k2 hlo hhi hm;obtain⟨el,i,hu,hi',hv⟩:=tySlice_out hv;cases lo with
  | some _=>cases hlo
  | none=>
  cases hi with
  | none=>cases hhi
  | some hi=>
  have hhi:e hi=.d (.c (.v (.int k1 0))):=Option.some.inj hhi;have key:K (.d .emp) [] []->(∀(σ:Sg) (F:Fzn) (w:World) (u:Value),PRep σ F w (e x) u->∃a n cap,u=.slice a n cap)->Outc P o e h K X:=by
   intro hK hsl;refine outc_val hK fun σ F a w hp=>?_;obtain⟨ad,n,cap,hxs⟩:=hsl σ F w _ (hp x (by simp[ho,Op.operands]));have e1:=hp hi (by simp[ho,Op.operands]);have e2:=hp m (by simp[ho,Op.operands]);rw[hhi] at e1;rw[hm] at e2;refine⟨.slice (if (0:Nat)=0 then ad else ad.map (·.add (0*i.size))) (0 - 0) (0 - 0),?_,?_⟩
   ·simp[execOp,ho,hxs,rep_v e1,rep_v e2,Instr.sliceAt,run_underlying hu,Instr.slice,Instr.sliceBounds,Instr.sliceBound,asIntOf,sizeOf,typeInfo,hi']
   ·unfold PRep DRep;exact⟨ad,rfl⟩
  split at hv
  ·rename_i sz rows hx;refine key hv fun σ F w u hu'=>?_;rw[hx] at hu';obtain⟨a,cap,rfl,_⟩:=rows_val (.inl rfl) hu';exact⟨_,_,_,rfl⟩
  ·rename_i k el2 sz rows hx;refine key hv fun σ F w u hu'=>?_;rw[hx] at hu';obtain⟨a,cap,rfl,_⟩:=rows_val (.inr ⟨_,_,rfl⟩) hu';exact⟨_,_,_,rfl⟩
  ·rename_i hx;refine key hv fun σ F w u hu'=>?_;rw[hx] at hu';exact⟨none,0,0,rep_v hu'⟩
  ·rename_i hx;refine key hv fun σ F w u hu'=>?_;rw[hx] at hu';exact⟨_,0,_,rep_v hu'⟩
  ·exact hv.elim
 ·exact hv.elim
theorem cutP_out {P:Program} {o:Oper} {e:Operand->PV} {h:Hp} {t:TypeId} {x m:Operand} {lo hi:Option Operand} {K:OpK} {X:Value->Hp->Prop} (ho:o.op=.slice t x lo hi (some m))
  (hv:cutP P t (e x) (lo.map e) (hi.map e) (e m) fun v=>K v [] []):Outc P o e h K X:=by
 unfold cutP at hv;split at hv
 ·rename_i k ek sz lw n cc hx;split at hv
  ·rename_i k1 l k2 h2 k3 m3 hlo hhi hm;obtain⟨el,i,hu,hi',hv'⟩:=tySlice_out hv;clear hv;have hv:=hv';clear hv';split at hv
   ·rename_i hsz;obtain rfl:=eq_of_beq_eq_true hsz;obtain⟨⟨c1,c2,c3,c4⟩,hK⟩:=hv;cases lo with
    | none=>cases hlo
    | some lo=>
    cases hi with
    | none=>cases hhi
    | some hi=>
    have hlo:e lo=.d (.c (.v (.int k1 l))):=Option.some.inj hlo;have hhi:e hi=.d (.c (.v (.int k2 h2))):=Option.some.inj hhi;refine outc_val hK fun σ F a w hp=>?_;have e0:=hp x (by simp[ho,Op.operands]);have e1:=hp lo (by simp[ho,Op.operands]);have e2:=hp hi (by simp[ho,Op.operands]);have e3:=hp m (by simp[ho,Op.operands]);rw[hx] at e0;rw[hlo] at e1;rw[hhi] at e2;rw[hm] at e3;unfold PRep DRep at e0;obtain⟨hz,g,q,off,cur,fr,g1,g2,g3,g4,g5,g6,g7⟩:=e0;obtain⟨l,rfl⟩:=eq_ofNat_of_zero_le c1;obtain⟨h2,rfl⟩:=eq_ofNat_of_zero_le (show (0:Int)<=h2 by omega);obtain⟨m3,rfl⟩:=eq_ofNat_of_zero_le (show (0:Int)<=m3 by omega);have d1:l<=h2:=by omega
    have d2:h2<=m3:=by omega
    have d3:m3<=cc:=by omega
    refine⟨.slice (if m3=l then some ⟨g,off,none⟩ else (some ⟨g,off,none⟩:Option Addr).map (·.add (l*i.size))) (h2 - l) (m3 - l),?_,?_⟩
    ·simp[execOp,ho,g2,rep_v e1,rep_v e2,rep_v e3,Instr.sliceAt,run_underlying hu,Instr.slice,Instr.sliceBounds,Instr.sliceBound,asIntOf,sizeOf,typeInfo,hi',d1,d2,d3]
    ·have hml:l*i.size+(m3 - l)*i.size<=cc*i.size:=by rw[<- add_mul];exact mul_le_mul_right _ (by omega)
     have hun:PRep σ F w (.d (.cut k ek i.size (lw+l) (h2 - l) (m3 - l))) (.slice (if m3=l then some ⟨g,off,none⟩ else some (⟨g,off+l*i.size,none⟩:Addr)) (h2 - l) (m3 - l)):=by
      unfold PRep DRep;by_cases q0:m3=l
      ·rw[if_pos q0];refine⟨hz,g,q,off,cur,fr,g1,rfl,by omega,by omega,g5,?_,fun p=>by omega⟩;rw[q0,sub_self,zero_mul];omega
      ·rw[if_neg q0];refine⟨hz,g,q,off+l*i.size,cur,fr,g1,rfl,by omega,by omega,g5,by omega,fun p=>?_⟩;rw[g7 (by omega),add_mul]
     have hadd:(Addr.add ⟨g,off,none⟩ (l*i.size))=(⟨g,off+l*i.size,none⟩:Addr):=by simp[Addr.add]
     simpa [hadd,toNat_natCast] using hun
   ·exact hv.elim
  ·exact hv.elim
 ·exact cutP0_out ho hv
end Go.Proofs.Ytdjbckknghddpaa.Pm
namespace Go.Proofs.Ytdjbckknghddpaa.Pm
open Go.RowKit
section
variable {σ σ':Sg} {F F':Fzn} {w:World}
mutual
theorem close_out:∀{x:PV} {K:PV->Prop},PV.close x K->∃y,K y/\∀(σ:Sg) (F:Fzn) (w:World) (u:Value),PRep σ F w x u->PRep (fun _=>none) F w y u
 | .d x,K,h=>by
  unfold PV.close at h;obtain⟨y,h1,h2⟩:=close_rep h;refine⟨_,h1,fun σ F w u hu=>?_⟩;unfold PRep at hu ⊢;unfold DRep;exact h2 σ F w u hu
 | .agg l,K,h=>by
  unfold PV.close at h;obtain⟨ys,h1,h2⟩:=closeL_out h;refine⟨_,h1,fun σ F w u hu=>?_⟩;unfold PRep at hu ⊢;obtain⟨xs,rfl,hx⟩:=hu;exact⟨xs,rfl,dsRep_of_cs (h2 σ F w xs hx)⟩
 | .tup l,K,h=>by
  unfold PV.close at h;obtain⟨ys,h1,h2⟩:=closePs_out h;refine⟨_,h1,fun σ F w u hu=>?_⟩;unfold PRep at hu ⊢;obtain⟨xs,rfl,hx⟩:=hu;exact⟨xs,rfl,h2 σ F w xs hx⟩
 | .any,K,h=>by unfold PV.close at h;exact h.elim
theorem closePs_out:∀{l:List PV} {K:List PV->Prop},closePs l K->∃ys,K ys/\∀(σ:Sg) (F:Fzn) (w:World) (us:List Value),PsRep σ F w l us->PsRep (fun _=>none) F w ys us
 | [],K,h=>by
  unfold closePs at h;refine⟨[],h,fun σ F w us hu=>?_⟩;cases us with
  | nil=>unfold PsRep;trivial|cons _ _=>unfold PsRep at hu;exact hu.elim
 | x::xs,K,h=>by
  unfold closePs at h;obtain⟨y,h1,h2⟩:=close_out h;obtain⟨ys,h3,h4⟩:=closePs_out h1;refine⟨y::ys,h3,fun σ F w us hu=>?_⟩;cases us with
  | nil=>unfold PsRep at hu;exact hu.elim|cons u us=>unfold PsRep at hu ⊢;exact⟨h2 σ F w u hu.1,h4 σ F w us hu.2⟩
end
mutual
theorem DRep.of_none (hk:Keeps F F' w w):∀(x:D) (u:Value),DRep (fun _=>none) F w x u->DRep σ F' w x u
 | .c x,u,h=>by unfold DRep at h ⊢;exact CRep.keeps hk _ _ h
 | .app k e sz l,u,h=>by unfold DRep at h;obtain⟨_,⟨h,_⟩ | ⟨_,_,_,_,h,_⟩⟩:=h<;>cases h
 | .ptr k o,u,h=>by unfold DRep at h;obtain⟨_,_,h,_⟩:=h;cases h
 | .arr k e sz lo n,u,h=>by unfold DRep at h;obtain⟨_,⟨_,h,_⟩ | ⟨_,_,_,_,_,_,h,_⟩⟩:=h<;>cases h
 | .elt k sz i o,u,h=>by unfold DRep at h;obtain⟨_,_,h,_⟩:=h;cases h
 | .optp k o,u,h=>by
  unfold DRep at h ⊢;rcases h with h | ⟨_,_,h,_⟩
  ·exact .inl h
  ·cases h
 | .data k e l,u,h=>by
  unfold DRep at h ⊢;rcases h with h | ⟨_,_,_,_,h,_⟩
  ·exact .inl h
  ·cases h
 | .mp k,u,h=>by unfold DRep at h;obtain⟨_,_,h,_⟩:=h;cases h
 | .emp,u,h=>by unfold DRep at h ⊢;exact h
 | .cut k e sz lo n cc,u,h=>by unfold DRep at h;obtain⟨_,_,_,_,_,_,h,_⟩:=h;cases h
 | .clo f a l,u,h=>by
  unfold DRep at h ⊢;obtain⟨us,vs,rfl,h1,h2⟩:=h;exact⟨us,vs,rfl,DsRep.of_none hk a us h1,DsRep.of_none hk l vs h2⟩
 | .mclo f l,u,h=>by
  unfold DRep at h ⊢;obtain⟨us,rfl,h1⟩:=h;exact⟨us,rfl,DsRep.of_none hk l us h1⟩
theorem DsRep.of_none (hk:Keeps F F' w w):∀(l:List D) (us:List Value),DsRep (fun _=>none) F w l us->DsRep σ F' w l us
 | [],[],_=>by unfold DsRep;trivial
 | _::l,_::us,h=>by unfold DsRep at h ⊢;exact⟨DRep.of_none hk _ _ h.1,DsRep.of_none hk l us h.2⟩
 | [],_::_,h=>by unfold DsRep at h;exact h.elim
 | _::_,[],h=>by unfold DsRep at h;exact h.elim
end
mutual
theorem PRep.of_none (hk:Keeps F F' w w):∀(x:PV) (u:Value),PRep (fun _=>none) F w x u->PRep σ F' w x u
 | .d x,u,h=>by unfold PRep at h ⊢;exact DRep.of_none hk x u h
 | .agg l,u,h=>by unfold PRep at h ⊢;obtain⟨xs,rfl,h⟩:=h;exact⟨xs,rfl,DsRep.of_none hk l xs h⟩
 | .tup l,u,h=>by unfold PRep at h ⊢;obtain⟨us,rfl,h⟩:=h;exact⟨us,rfl,PsRep.of_none hk l us h⟩
 | .any,u,h=>by unfold PRep;trivial
theorem PsRep.of_none (hk:Keeps F F' w w):∀(l:List PV) (us:List Value),PsRep (fun _=>none) F w l us->PsRep σ F' w l us
 | [],[],_=>by unfold PsRep;trivial
 | x::xs,u::us,h=>by unfold PsRep at h ⊢;exact⟨PRep.of_none hk x u h.1,PsRep.of_none hk xs us h.2⟩
 | [],_::_,h=>by unfold PsRep at h;exact h.elim
 | _::_,[],h=>by unfold PsRep at h;exact h.elim
end
theorem psRep_append:∀{xs ys:List PV} {us vs:List Value},PsRep σ F w xs us->PsRep σ F w ys vs->PsRep σ F w (xs++ys) (us++vs)
 | [],_,[],_,_,h=>h|_::_,_,_::_,_,h,k=>by
  unfold PsRep at h;simp only[cons_append];unfold PsRep;exact⟨h.1,psRep_append h.2 k⟩
 | [],_,_::_,_,h,_=>by unfold PsRep at h;exact h.elim
 | _::_,_,[],_,h,_=>by unfold PsRep at h;exact h.elim
theorem psRep_pds:∀{l:List D} {us:List Value},DsRep σ F w l us->PsRep σ F w (pds l) us
 | [],_,h=>by rw[dsRep_nil_inv h];unfold pds PsRep;trivial
 | x::xs,_,h=>by
  obtain⟨u,vs,rfl,h1,h2⟩:=dsRep_inv h;show PsRep σ F w (PV.d x::pds xs) (u::vs);unfold PsRep;exact⟨by unfold PRep;exact h1,psRep_pds h2⟩
theorem mapE_out {e:Operand->PV}:∀{l:List Operand} {K:List PV->Prop},mapE e l K->∃ys,K ys/\∀(σ:Sg) (F:Fzn) (w:World) (ρ:Operand->Value),(∀x∈l,PRep σ F w (e x) (ρ x))->PsRep σ F w ys (l.map ρ)
 | [],K,h=>⟨[],h,fun σ F w ρ _=>by simp only[map_nil];unfold PsRep;trivial⟩|x::xs,K,h=>by
  unfold mapE at h;obtain⟨ys,h1,h2⟩:=mapE_out (force_out h);refine⟨_,h1,fun σ F w ρ hp=>?_⟩;rw[map_cons];unfold PsRep;exact⟨hp x (mem_cons_self ..),h2 σ F w ρ fun y hy=>hp y (mem_cons_of_mem _ hy)⟩
theorem dforce_out {x:D} {K:D->Prop} (h:D.force x K):K x:=by cases x<;>exact h
theorem dsOf_out:∀{l:List PV} {K:List D->Prop},dsOf l K->∃ds,K ds/\∀(σ:Sg) (F:Fzn) (w:World) (us:List Value),PsRep σ F w l us->DsRep σ F w ds us
 | [],K,h=>⟨[],h,fun σ F w us hu=>by
  cases us with
  | nil=>exact dsRep_nil|cons _ _=>unfold PsRep at hu;exact hu.elim⟩
 | x::xs,K,h=>by
  cases x with
  | d x=>
   unfold dsOf at h;obtain⟨ds,h1,h2⟩:=dsOf_out (dforce_out h);refine⟨_,h1,fun σ F w us hu=>?_⟩;cases us with
   | nil=>unfold PsRep at hu;exact hu.elim|cons u us=>
    unfold PsRep at hu;have h3:=hu.1;unfold PRep at h3;exact dsRep_cons h3 (h2 σ F w us hu.2)
  | agg l=>unfold dsOf at h;exact h.elim|tup l=>unfold dsOf at h;exact h.elim|any=>unfold dsOf at h;exact h.elim
end
theorem pure_frame {P:Program} {f:FuncId} {args ys:List PV} {r:PV} {c:Ctx} {σ:Sg} {h:Hp} {w:World} {vs:List Value} (hy:closesTo args ys) (hp:Pure P f ys r) (hc:c.Ok) (hs:SW c σ h w) (hx:PsRep σ (fz c σ h w) w args vs) :
  Calls P f vs.toArray w fun e w'=>∃v,e=.returned v/\Evo σ σ (fz c σ h w) (fz c σ h w') w w'/\SW c σ h w'/\PRep σ (fz c σ h w') w' r v:=by
 obtain⟨h1,hp⟩:=hp;obtain⟨zs,rfl,hz⟩:=closePs_out hy;have hF:∀b o',fz c σ h w b o'->b<w.heap.size:=fun b o' hf=>fz_lt hs hf;refine (hp (fz c σ h w) w _ (sw_gl hc hs) hF (hz σ _ w _ hx)).mono ?_;rintro en w' ⟨v,rfl,hb,hr⟩;have ev:=evo_below hs hb;refine⟨v,rfl,ev,sw_below hs hb,PRep.of_none ⟨fun b o' hf=>?_,fun _ _ _=>rfl⟩ _ _ hr⟩;rcases hf with hf | ⟨f1,f2⟩
 ·exact ev.keeps.le _ _ hf
 ·refine .inr ⟨.inl (le_trans hs.size f1),f2,fun k n hb' hk' hσ=>?_⟩;have:=(hb_block (hs.hp k hb' hk') hσ).1;omega
theorem ovl_run {P:Program} {c:Ctx} {σ:Sg} {h:Hp} {w:World} (hs:SW c σ h w) {x y:PV} {sa sb:Slc} {ha1 hb1:HB} {u u2:Value} (hk1:h sa.k=some ha1) (hk2:h sb.k=some hb1) (r1:(hbRows ha1).isSome=true) (r2:(hbRows hb1).isSome=true) (hne:sa.k≠sb.k) (hnn:0<sa.n/\0<sb.n)
  (h1:slOf x=some sa) (h2:slOf y=some sb) (g1:PRep σ (fz c σ h w) w x u) (g2:PRep σ (fz c σ h w) w y u2) {tS el:TypeId} {i:TypeInfo} (hu:P.underlying tS=some (.slice el)) (hi:P.info? el=some i) (tR:TypeId) :
  (Extern.SlicesOverlaps.overlaps #[tS,tS] #[tR] #[u,u2]).run P w=.ok (.bool false) w:=by
 have hsz:∀w,(Go.sizeOf el).run P w=.ok i.size w:=fun w=>by simp[sizeOf,typeInfo,hi]
 obtain⟨z1,q1⟩:=slc_rep h1 g1;obtain⟨z2,q2⟩:=slc_rep h2 g2;rcases q1 with ⟨n1,b1,rfl⟩ | ⟨ga,qa,offa,capa,cura,fra,s1,rfl,s3,s4,s5,s6,s7⟩
 ·omega
 ·rcases q2 with ⟨n2,b2,rfl⟩ | ⟨gb,qb,offb,capb,curb,frb,t1,rfl,t3,t4,t5,t6,t7⟩
  ·omega
  ·have hn0:=hnn.2
   ·have hgg:ga≠gb:=by
     rintro rfl;exact hne (hs.inj _ _ _ _ _ (by rw[hk1];exact Option.some_ne_none _) (by rw[hk2];exact Option.some_ne_none _) s1 t1)
    obtain⟨⟨e1,rows1⟩,hr1⟩:=isSome_iff_exists.1 r1;obtain⟨_,hrl1,ob,n',j1,j2⟩:=hb_rows hr1 (hs.hp _ _ hk1);rw[s1] at j1;cases j1;obtain⟨_,cur2,e2,j3,_⟩:=j2;rw[s5] at j3;cases j3;have hcap:0<capb*sb.sz:=Nat.mul_pos (by omega) z2;have hsh:∀{g:Nat} {cur:Array Value} {T:TypeId} {fr:Nat×Nat},w.heap[g]? = some (.cells cur T fr)->w.shape? g=some (T,cur.size):=by
     intro g cur T fr hg;unfold World.shape?;rw[hg]
    refine Lib.run_overlaps_apart w tS tR el hu i.size hsz ⟨ga,offa,none⟩ ⟨gb,offb,none⟩ _ _ _ _ hgg _ _ _ _ (hsh s5) (hsh t5) (by omega) ?_ ?_
    ·simp[World.frozen?,s5]
    ·simp[World.frozen?,s5]
theorem callFn_out {P:Program} {o:Oper} {e:Operand->PV} {h:Hp} {f:Operand} {args:Array Operand} {tys:Array TypeId} {g:FuncId} {zs:List PV} {K:OpK} {X:Value->Hp->Prop}
  (ho:o.op=.call { callee:=.value f,args,argTypes:=tys })
  (hz:∀(σ:Sg) (F:Fzn) (w:World) (a:Act),(∀x∈o.op.operands,PRep σ F w (e x) (a.eval x))->∃us vs:List Value,a.eval f=.func (.func g) us.toArray vs.toArray/\PsRep σ F w zs (us++(args.toList.map a.eval++vs)))
  (hv:CallP P g zs h K X):Outc P o e h K X:=by
 have hrun:∀(a:Act) (w:World) (us vs:List Value),fnOk P g->a.eval f=.func (.func g) us.toArray vs.toArray->(execOp a.eval o).run P w=.ok (.enter g (us++(args.toList.map a.eval++vs)).toArray) w:=by
  rintro a w us vs ⟨fn,p1,p2,p3⟩ hf;have p2':¬fn.name = "runtime.NumGoroutine":=by simpa using p2
  have p3':¬fn.body=none:=by
   intro e;rw[e] at p3;cases p3
  simp[execOp,ho,resolve,hf,Deferred.ofValue,invoke,callFunc,p1,p2',p3']
 cases hv with
 | ret ρ args0 rd rf res out rd' rf' hcs hn ha h1 h2 hr hk=>
  have h1:RR ρ rd rd':=by obtain⟨_,rfl,q⟩:=renRf_out h1;exact q
  have h2:RR ρ rf rf':=by obtain⟨_,rfl,q⟩:=renRf_out h2;exact q
  obtain⟨out',hk,h3⟩:=renRf_out hk;obtain⟨r,hk,h4⟩:=renP_out hk;have hr':=rfIn_out hr;refine .inl ⟨r,deltaOf rf' out',rd'++rf',hk,hr',?_⟩;intro c σ h' a w hc hs hx hrf hfr next Q KK
  obtain⟨us,vs,g1,g2⟩:=hz σ _ w a hx;unfold Oper.wp;rw[hrun a w us vs hcs.1 g1];rw[Oper.upon_enter];refine (callS_frame hcs hn ha h1 h2 h3 h4 hc hs g2 hrf hfr).mono ?_;rintro en w' ⟨v,σ',rfl,q1,q2,q3,q4⟩;exact KK v σ' w' q1 q2 q3 q4
 | same x hsame ha hk=>
  obtain⟨fn,p1,p2,p3,p4,p5⟩:=hsame;subst ha;refine .inl ⟨x,[],[],hk,by simp,semStep_val _ fun c σ h' a w hs _ hx=>?_⟩;obtain⟨us,vs,g1,g2⟩:=hz σ _ w a hx;match hq:us++(args.toList.map a.eval++vs),g2 with
  | [u],g2=>
   refine⟨u,?_,?_⟩
   ·have e1:us.toArray++Array.map a.eval args++vs.toArray=#[u]:=by
     apply Array.toList_inj.1;simp;simpa using hq
    have e2:=run_callFunc_extern p1 p2 p3 p4 p5 #[u] w;have e3:(Extern.AbiNoEscape.same #[u]).run P w=.ok u w:=rfl;rw[e3] at e2;simp only[Result.andThen_ok] at e2;simp only[execOp,ho,resolve,g1,Deferred.ofValue,invoke,Sem.run_bind,Sem.run_pure,Result.andThen_ok];rw[e1];exact e2
   ·unfold PsRep at g2;exact g2.1
  | [],g2=>unfold PsRep at g2;exact g2.elim|_::_::_,g2=>unfold PsRep PsRep at g2;exact g2.2.elim
 | ovl x y sa sb ha1 hb1 hov ha h1 h2 hk1 hk2 r1 r2 hne hnn hk=>
  obtain⟨fn,tS,tR,el,i,p1,p2,p3,p4,p5,p6,p7⟩:=hov;subst ha;refine .inl ⟨_,[],[(sa.k,ha1),(sb.k,hb1)],hk,by simpa using ⟨hk1,hk2⟩,semStep_val _ fun c σ h' a w hs hrf hx=>?_⟩;obtain⟨us,vs,g1,g2⟩:=hz σ _ w a hx;match hq:us++(args.toList.map a.eval++vs),g2 with
  | [u,u2],g2=>
   unfold PsRep PsRep at g2;refine⟨.bool false,?_,rep_bool _⟩;have e1:us.toArray++Array.map a.eval args++vs.toArray=#[u,u2]:=by
    apply Array.toList_inj.1;simp;simpa using hq
   have e2:=run_callFunc_extern p1 p2 p3 p4 p5 #[u,u2] w;have e3:=ovl_run hs (hrf (sa.k,ha1) mem_cons_self) (hrf (sb.k,hb1) (mem_cons_of_mem _ mem_cons_self)) r1 r2 (fun q=>by rw[q,beq_refl] at hne;cases hne) hnn h1 h2 g2.1 g2.2.1 p6 p7 tR;rw[e3] at e2;simp only[Result.andThen_ok] at e2;simp only[execOp,ho,resolve,g1,Deferred.ofValue,invoke,Sem.run_bind,Sem.run_pure,Result.andThen_ok];rw[e1];exact e2
  | [],g2=>unfold PsRep at g2;exact g2.elim|[_],g2=>unfold PsRep PsRep at g2;exact g2.2.elim|_::_::_::_,g2=>unfold PsRep PsRep PsRep at g2;exact g2.2.2.elim
 | pure ys hy r hp hk=>
  refine .inl ⟨r,[],[],hk,by simp,?_⟩;intro c σ h' a w hc hs hx hrf hfr next Q KK
  obtain⟨us,vs,h1,h2⟩:=hz σ _ w a hx;unfold Oper.wp;rw[hrun a w us vs hp.1 h1];rw[Oper.upon_enter];refine (pure_frame hy hp hc hs h2).mono ?_;rintro en w' ⟨v,rfl,g1,g2,g3⟩;exact KK v σ w' g1 g2 g3 (fun _ _ h=>h)
 | pan ρ args0 rd rd' x hcx hn ha h1 hr hxx=>
  have h1:RR ρ rd rd':=by obtain⟨_,rfl,q⟩:=renRf_out h1;exact q
  have hr':=rfIn_out hr;refine .inr ⟨x,rd',hxx,hr',?_⟩;intro c σ h' a w hc hs hx hrf next Q KK
  obtain⟨us,vs,g1,g2⟩:=hz σ _ w a hx;unfold Oper.wp;rw[hrun a w us vs hcx.1 g1];rw[Oper.upon_enter];refine (callX_frame hcx hn ha h1 hc hs g2 hrf).mono ?_;rintro en w' ⟨rfl,σ',q1,q2,q3⟩;exact KK w' σ' q1 q2 q3
theorem nilIfP_out {P:Program} {o:Oper} {e:Operand->PV} {h:Hp} {op:BinOp} {t t0:TypeId} {x:Operand} {K:PV->Prop} {X:Value->Hp->Prop} {K0:OpK} (hK:∀v,K v->K0 v [] []) (ho:o.op=.binOp op t x (.const .nilIface) t0) (hv:nilIfP P op t (e x) K):Outc P o e h K0 X:=by
 unfold nilIfP at hv;split at hv
 ·rename_i ms hu;have hm:P.underlying t=some (.interface (P.methodsAt t)):=by rw[hu];simp[Program.methodsAt,hu]
  split at hv
  ·rename_i d z hx;have e1:∀(σ:Sg) (F:Fzn) (w:World) (a:Act),(∀x∈o.op.operands,PRep σ F w (e x) (a.eval x))->a.eval x=.iface d z:=fun σ F w a hp=>by
    have:=hp x (by simp[ho,Op.operands]);rw[hx] at this;exact rep_v this
   split at hv
   ·exact outc_val (hK _ hv) fun σ F a w hp=>⟨.bool false,by simp[execOp,ho,e1 σ F w a hp,show a.eval (.const .nilIface)=.nilIface from rfl,eqGuard_at_iface,run_eql_held_nil w t d z hm],rep_bool _⟩
   ·exact outc_val (hK _ hv) fun σ F a w hp=>⟨.bool true,by simp[execOp,ho,e1 σ F w a hp,show a.eval (.const .nilIface)=.nilIface from rfl,eqGuard_at_iface,run_neq_held_nil w t d z hm],rep_bool _⟩
   ·exact hv.elim
  ·rename_i hx;have e1:∀(σ:Sg) (F:Fzn) (w:World) (a:Act),(∀x∈o.op.operands,PRep σ F w (e x) (a.eval x))->a.eval x=.nilIface:=fun σ F w a hp=>by
    have:=hp x (by simp[ho,Op.operands]);rw[hx] at this;exact rep_v this
   split at hv
   ·exact outc_val (hK _ hv) fun σ F a w hp=>⟨.bool true,by simp[execOp,ho,e1 σ F w a hp,show a.eval (.const .nilIface)=.nilIface from rfl,eqGuard_nil_constR,run_eql_nil_nil w t hm],rep_bool _⟩
   ·exact outc_val (hK _ hv) fun σ F a w hp=>⟨.bool false,by simp[execOp,ho,e1 σ F w a hp,show a.eval (.const .nilIface)=.nilIface from rfl,eqGuard_nil_constR,run_neq_nil_nil w t hm],rep_bool _⟩
   ·exact hv.elim
  ·exact hv.elim
 ·exact hv.elim
theorem vcOp_out {P:Program} {o:Oper} {key:Nat} {e:Operand->PV} {h:Hp} {K:OpK} {X:Value->Hp->Prop} (hv:vcOp P key o.type o.op e h K X):Outc P o e h K X:=by
 unfold vcOp at hv;split at hv
 ·
  rename_i x ho;exact outc_val (force_out hv) fun σ F a w hx=>⟨a.eval x,by simp[execOp,ho],hx x (by simp[ho,Op.operands])⟩
 ·rename_i x ho;exact outc_val (force_out hv) fun σ F a w hx=>⟨a.eval x,by simp[execOp,ho],hx x (by simp[ho,Op.operands])⟩
 ·
  rename_i cc x y ho;unfold pickP at hv;split at hv
  ·rename_i t ht;obtain⟨h1,h2⟩:=hv;have hcv:∀(σ:Sg) (F:Fzn) (a:Act) (w:World),(∀x∈o.op.operands,PRep σ F w (e x) (a.eval x))->a.eval cc=.bool t:=by
    intro σ F a w hx;have:=hx cc (by simp[ho,Op.operands]);rw[ht] at this;exact rep_v this
   cases t with
   | true=>
    exact outc_val (force_out (h1 rfl)) fun σ F a w hx=>⟨a.eval x,by simp[execOp,ho,asBool,hcv σ F a w hx],hx x (by simp[ho,Op.operands])⟩
   | false=>
    exact outc_val (force_out (h2 rfl)) fun σ F a w hx=>⟨a.eval y,by simp[execOp,ho,asBool,hcv σ F a w hx],hx y (by simp[ho,Op.operands])⟩
  ·exact hv.elim
 ·rename_i op t x t0 ho;exact nilIfP_out (fun _ h=>h) ho hv
 ·
  rename_i op t x y ty hne ho;have hmem:x∈o.op.operands/\y∈o.op.operands:=by simp[ho,Op.operands]
  unfold binP at hv;split at hv
  ·rename_i k a k' b hx hy;obtain⟨v,h1,h2,h3⟩:=intBin_out (P:=P) t hv;refine outc_val h1 fun σ F ac w hp=>⟨v,?_,rep_of h2⟩;have e1:=hp x hmem.1;have e2:=hp y hmem.2;rw[hx] at e1;rw[hy] at e2;simp[execOp,ho,rep_v e1,rep_v e2,eqGuard,h3]
  ·rename_i a b hx hy;obtain⟨v,h1,h2,h3⟩:=strBin_out (P:=P) t hv;refine outc_val h1 fun σ F ac w hp=>⟨v,?_,rep_of h2⟩;have e1:=hp x hmem.1;have e2:=hp y hmem.2;rw[hx] at e1;rw[hy] at e2;simp[execOp,ho,rep_v e1,rep_v e2,eqGuard,h3]
  ·rename_i a b hx hy;obtain⟨v,h1,h2,h3⟩:=boolBin_out (P:=P) t hv;refine outc_val h1 fun σ F ac w hp=>⟨v,?_,rep_of h2⟩;have e1:=hp x hmem.1;have e2:=hp y hmem.2;rw[hx] at e1;rw[hy] at e2;simp[execOp,ho,rep_v e1,rep_v e2,eqGuard,h3]
  ·split at hv
   ·obtain⟨b,h1,h2⟩:=eqP_out hv;refine outc_val h1 fun σ F ac w hp=>⟨.bool b,?_,rep_bool _⟩;obtain⟨g1,g2,g3,g4⟩:=h2 σ F w _ _ x y (hp x hmem.1) (hp y hmem.2);simp[execOp,ho,g1,g3]
   ·obtain⟨b,h1,h2⟩:=eqP_out hv;refine outc_val h1 fun σ F ac w hp=>⟨.bool (!b),?_,rep_bool _⟩;obtain⟨g1,g2,g3,g4⟩:=h2 σ F w _ _ x y (hp x hmem.1) (hp y hmem.2);simp[execOp,ho,g2,g4]
   ·exact hv.elim
 ·
  rename_i op t x ho;unfold unP at hv;split at hv
  ·rename_i b hx;refine outc_val hv fun σ F a w hp=>⟨.bool (!b),?_,rep_bool _⟩;have e1:=hp x (by simp[ho,Op.operands]);rw[hx] at e1;simp[execOp,ho,rep_v e1,Op.unary]
  ·rename_i k n hx;obtain⟨m,rfl,hv⟩:=hv;refine outc_val hv fun σ F a w hp=>⟨_,?_,rep_int _ _⟩;have e1:=hp x (by simp[ho,Op.operands]);rw[hx] at e1;simp[execOp,ho,rep_v e1,Op.unary,Op.intArith]
  ·exact hv.elim
 ·
  rename_i s d x ho;exact convP3_out ho hv
 ·rename_i t ho;exact makeMapP_out ho hv
 ·rename_i t x i ok ho;exact lookupP_out ho hv
 ·rename_i t m k x ho;exact mapPutP_out (.inl ho) hv
 ·rename_i t m k x ho;exact mapPutP_out (.inr ho) hv
 ·rename_i t x lo hi m ho;exact cutP_out ho hv
 ·
  rename_i t x lo hi ho;exact sliceP2_out ho hv
 ·
  rename_i t x i ho;obtain⟨v,h1,h2⟩:=indexP_out hv;refine outc_val h1 fun σ F a w hp=>?_;obtain⟨z,h3,h4⟩:=h2 σ F w _ _ (hp x (by simp[ho,Op.operands])) (hp i (by simp[ho,Op.operands]));exact⟨z,by simp[execOp,ho,h3],h4⟩
 ·
  rename_i t x i ho;exact idxAddrP2_out ho hv
 ·
  rename_i s x f ho;obtain⟨v,h1,h2⟩:=fieldAddrP_out hv;refine outc_val h1 fun σ F a w hp=>?_;obtain⟨z,h3,h4⟩:=h2 σ F w _ (hp x (by simp[ho,Op.operands]));exact⟨z,by simp[execOp,ho,h3],h4⟩
 ·
  rename_i s x f ho;unfold fieldP at hv;split at hv
  ·rename_i l hx;obtain⟨fs,fd,i,hu,hf,hi,hz,hv⟩:=fieldOf_out hv;obtain⟨v,h1,h2⟩:=partP_out hv;refine outc_val h1 fun σ F a w hp=>?_;have e1:=hp x (by simp[ho,Op.operands]);rw[hx] at e1;unfold PRep at e1;obtain⟨us,e2,e3⟩:=e1;obtain⟨u,h3,h4⟩:=h2 σ F w us e3;exact⟨u,by simp[execOp,ho,e2,Instr.field,run_underlying hu,hf,asAgg,h3],h4⟩
  ·exact hv.elim
 ·
  rename_i x i ho;unfold extractP at hv;split at hv
  ·rename_i l hx;split at hv
   ·rename_i v hl;refine outc_val (force_out hv) fun σ F a w hp=>?_;have e1:=hp x (by simp[ho,Op.operands]);rw[hx] at e1;unfold PRep at e1;obtain⟨us,e2,e3⟩:=e1;have key:∀(l:List PV) (us:List Value) (i:Nat),PsRep σ F w l us->l[i]? = some v->∃u,us[i]? = some u/\PRep σ F w v u:=by
     intro l;induction l with
     | nil=>intro us i _ h;simp at h
     | cons y l ih=>
      intro us i h1 h2;cases us with
      | nil=>unfold PsRep at h1;exact h1.elim|cons u us=>
       unfold PsRep at h1;cases i with
       | zero=>simp only[List.getElem?_cons_zero,Option.some.injEq] at h2;subst h2;exact⟨u,rfl,h1.1⟩|succ i=>simp only[List.getElem?_cons_succ] at h2 ⊢;exact ih us i h1.2 h2
    obtain⟨u,e4,e5⟩:=key l us i e3 hl;exact⟨u,by simp[execOp,ho,e2,Instr.extract,e4],e5⟩
   ·exact hv.elim
  ·exact hv.elim
 ·
  rename_i x ho;unfold nilCheckP at hv;split at hv
  ·rename_i l hx;refine outc_val hv fun σ F a w hp=>⟨a.eval x,?_,?_⟩
   ·have e1:=hp x (by simp[ho,Op.operands]);rw[hx] at e1;unfold PRep DRep CRep at e1;obtain⟨b,off,e2,_⟩:=e1;simp[execOp,ho,e2]
   ·have e1:=hp x (by simp[ho,Op.operands]);rw[hx] at e1;exact e1
  ·rename_i k off hx;refine outc_val hv fun σ F a w hp=>⟨a.eval x,?_,?_⟩
   ·have e1:=hp x (by simp[ho,Op.operands]);rw[hx] at e1;unfold PRep DRep at e1;obtain⟨b,n,_,e2⟩:=e1;simp[execOp,ho,e2]
   ·have e1:=hp x (by simp[ho,Op.operands]);rw[hx] at e1;exact e1
  ·rename_i k sz i off hx;refine outc_val hv fun σ F a w hp=>⟨a.eval x,?_,?_⟩
   ·have e1:=hp x (by simp[ho,Op.operands]);rw[hx] at e1;unfold PRep DRep at e1;obtain⟨b,n,_,e2⟩:=e1;simp[execOp,ho,e2]
   ·have e1:=hp x (by simp[ho,Op.operands]);rw[hx] at e1;exact e1
  ·exact hv.elim
 ·
  rename_i t x ho;unfold loadP2 at hv;split at hv
  ·rename_i g off hx;obtain⟨cv,hc1,hv⟩:=hv;obtain⟨v,h1,h2⟩:=readP_out hv;refine .inl ⟨v,[],[],h1,by simp,semStep_gval _ fun c σ h' a w hc hs hrf hp=>?_⟩;have e1:=hp x (by simp[ho,Op.operands]);rw[hx] at e1;have e2:=rep_v e1;obtain⟨g1,g2⟩:=gcell_ok (sw_gl hc hs) hc1;have hd:DsRep σ (fz c σ h' w) w [.c (.v cv)] [cv]:=by
    refine dsRep_cons ?_ dsRep_nil;unfold DRep CRep;exact⟨rfl,g2⟩
   obtain⟨u,h3,h4⟩:=h2 σ _ w g off [cv] hd (fun j v hv=>by
    cases j with
    | zero=>cases hv;exact g1
    | succ j=>cases hv)
   exact⟨u,by simp only[execOp,ho,e2,Instr.loadAt,Instr.sureAddr,Sem.run_bind,Sem.run_pure,Result.andThen_ok,h3],h4⟩
  unfold loadP at hv;split at hv
  ·rename_i l hx;obtain⟨v,h1,h2⟩:=readP_out hv;refine outc_val h1 fun σ F a w hp=>?_;have e1:=hp x (by simp[ho,Op.operands]);rw[hx] at e1;unfold PRep DRep CRep at e1;obtain⟨b,off,e2,e3⟩:=e1;obtain⟨us,e4,e5,_⟩:=csAt_values e3;obtain⟨u,h3,h4⟩:=h2 σ F w b off us (dsRep_of_cs e4) e5;exact⟨u,by simp only[execOp,ho,e2,Instr.loadAt,Instr.sureAddr,Sem.run_bind,Sem.run_pure,Result.andThen_ok,h3],h4⟩
  ·rename_i k off hx;split at hv
   ·rename_i bt l hk;obtain⟨v,h1,h2⟩:=readP_out hv;refine .inl ⟨v,[],[(k,.box bt l)],h1,by simpa using hk,semStep_val _ fun c σ h' a w hs hrf hp=>?_⟩;have hk':=hrf (k,.box bt l) (by simp);have e1:=hp x (by simp[ho,Op.operands]);rw[hx] at e1;unfold PRep DRep at e1;obtain⟨g,n,e2,e3⟩:=e1;obtain⟨g',n',cur,e4,e5,e6,e7⟩:=hs.hp k _ hk';rw[e2] at e4;cases e4;obtain⟨u,h3,h4⟩:=h2 σ _ w g off (cur.toList.drop off) (e7.drop off) (fun j v hv=>by
     rw[cell_of_row _ _ _ _ _ _ e6];rw[List.getElem?_drop] at hv;simpa using hv)
    exact⟨u,by simp only[execOp,ho,e3,Instr.loadAt,Instr.sureAddr,Sem.run_bind,Sem.run_pure,Result.andThen_ok,h3],h4⟩
   ·exact hv.elim
  ·rename_i k sz j off hx;split at hv
   ·rename_i e0 s rows hk;split at hv
    ·rename_i es;obtain rfl:=eq_of_beq_eq_true es;obtain⟨r,hr,hv⟩:=hv;obtain⟨v,h1,h2⟩:=readP_out hv;refine .inl ⟨v,[],[(k,.arr e0 s rows)],h1,by simpa using hk,semStep_val _ fun c σ h' a w hs hrf hp=>?_⟩;have hk':=hrf (k,.arr e0 s rows) (by simp);have e1:=hp x (by simp[ho,Op.operands]);rw[hx] at e1;unfold PRep DRep at e1;obtain⟨g,n,e2,e3⟩:=e1;obtain⟨hz,hrl,ob,n',e4,e5⟩:=hs.hp k _ hk';rw[e2] at e4;cases e4;obtain⟨e5,cur,e6,e7,e8⟩:=e5;have hrep:=row_rep hrl hr e8;obtain⟨u,h3,h4⟩:=h2 σ _ w g (j*s+off) ((((cur.toList.take (rows.length*s)).drop (j*s)).take s).drop off) (dsRep_of_cs (hrep.drop off)) (fun q v hv=>by
      rw[cell_of_row _ _ _ _ _ _ e6];rw[List.getElem?_drop,List.getElem?_take] at hv;split at hv
      ·rw[List.getElem?_drop,List.getElem?_take] at hv;split at hv
       ·rw[<- Array.getElem?_toList,<- hv];congr 1;omega
       ·cases hv
      ·cases hv)
     exact⟨u,by simp only[execOp,ho,e3,Instr.loadAt,Instr.sureAddr,Sem.run_bind,Sem.run_pure,Result.andThen_ok,h3],h4⟩
    ·exact hv.elim
   ·rename_i e0 s rows hk;split at hv
    ·rename_i es;obtain rfl:=eq_of_beq_eq_true es;obtain⟨r,hr,hv⟩:=hv;obtain⟨v,h1,h2⟩:=readP_out hv;refine .inl ⟨v,[],[(k,.darr e0 s rows)],h1,by simpa using hk,semStep_val _ fun c σ h' a w hs hrf hp=>?_⟩;have hk':=hrf (k,.darr e0 s rows) (by simp);have e1:=hp x (by simp[ho,Op.operands]);rw[hx] at e1;unfold PRep DRep at e1;obtain⟨g,n,e2,e3⟩:=e1;obtain⟨hz,hrl,ob,n',e4,e5⟩:=hs.hp k _ hk';rw[e2] at e4;cases e4;obtain⟨e5,cur,e6,e7,e8⟩:=e5;have hrep:=drow_rep hrl hr e8;obtain⟨u,h3,h4⟩:=h2 σ _ w g (j*s+off) ((((cur.toList.take (rows.length*s)).drop (j*s)).take s).drop off) (hrep.drop off) (fun q v hv=>by
      rw[cell_of_row _ _ _ _ _ _ e6];rw[List.getElem?_drop,List.getElem?_take] at hv;split at hv
      ·rw[List.getElem?_drop,List.getElem?_take] at hv;split at hv
       ·rw[<- Array.getElem?_toList,<- hv];congr 1;omega
       ·cases hv
      ·cases hv)
     exact⟨u,by simp only[execOp,ho,e3,Instr.loadAt,Instr.sureAddr,Sem.run_bind,Sem.run_pure,Result.andThen_ok,h3],h4⟩
    ·exact hv.elim
   ·exact hv.elim
  ·exact hv.elim
 ·rename_i t x y ho;exact storeP_out ho hv
 ·rename_i t ho;exact allocP2_out ho hv
 ·rename_i t x ho;exact boxP2_out ho hv
 ·
  rename_i t parts ho;obtain⟨v,h1,h2⟩:=buildP_out hv;refine outc_val h1 fun σ F a w hp=>?_;obtain⟨u,h3,h4⟩:=h2 σ F w a.eval (fun p hpm=>hp p.2 (by
   simp only[ho,Op.operands,Array.mem_def,mem_map];exact⟨p,Array.mem_def.1 hpm,rfl⟩))
  refine⟨u,?_,h4⟩;simp only[execOp,ho,Sem.run_bind,h3,Result.andThen_ok];rfl
 ·rename_i t n parts ho;exact buildSliceP0_out ho hv
 ·
  rename_i cl ho;unfold callP at hv;split at hv
  ·rename_i b hb;split at hv
   ·rename_i x t ha hat;obtain⟨v,h1,h2⟩:=lenP_out hv;refine outc_val h1 fun σ F a w hp=>?_;obtain⟨callee,args,tys⟩:=cl;simp only at hb ha hat;subst hb;have ha':args=#[x]:=by apply Array.toList_inj.1;rw[ha]
    have hat':tys=#[t]:=by apply Array.toList_inj.1;rw[hat]
    subst ha' hat';obtain⟨u,h3,h4⟩:=h2 σ F w _ o.type (hp x (by simp[ho,Op.operands,Call.operands]));exact⟨u,by simp[execOp,ho,resolve,invoke,builtin,h3],h4⟩
   ·rename_i s x t t2 ha hat;obtain⟨callee,args,tys⟩:=cl;simp only at hb ha hat;subst hb;have ha':args=#[s,x]:=by apply Array.toList_inj.1;rw[ha]
    have hat':tys=#[t,t2]:=by apply Array.toList_inj.1;rw[hat]
    subst ha' hat';split at hv
    ·rename_i hse;exact appCutP_out ho hse hv
    ·rename_i hse;split at hv
     ·rename_i b hb;exact appEmpP_out ho hse hb hv
     ·split at hv
      ·rename_i z hz;exact appStrP_out ho hz hv
      ·exact appendP_out ho hv
    split at hv
    ·rename_i z hz;exact appStrP_out ho hz hv
    ·rename_i k2 e2 sz2 lo n hz;split at hv
     ·rename_i e3 y hk2;exact appPtrP_out ho hz hk2 hv
     ·exact appArr2P_out ho (by rw[hz];rfl) hv
     ·exact appArrP_out ho hz hv
    ·rename_i hz;exact appendP_out ho hv
   ·rename_i x t ha hat;obtain⟨v,h1,h2⟩:=capP_out hv;refine outc_val h1 fun σ F a w hp=>?_;obtain⟨callee,args,tys⟩:=cl;simp only at hb ha hat;subst hb;have ha':args=#[x]:=by apply Array.toList_inj.1;rw[ha]
    have hat':tys=#[t]:=by apply Array.toList_inj.1;rw[hat]
    subst ha' hat';obtain⟨u,h3,h4⟩:=h2 σ F w _ o.type (hp x (by simp[ho,Op.operands,Call.operands]));exact⟨u,by simp[execOp,ho,resolve,invoke,builtin,h3],h4⟩
   ·rename_i x t ha hat;obtain⟨callee,args,tys⟩:=cl;simp only at hb ha hat;subst hb;have ha':args=#[x]:=by apply Array.toList_inj.1;rw[ha]
    have hat':tys=#[t]:=by apply Array.toList_inj.1;rw[hat]
    subst ha' hat';exact clearP_out ho hv
   ·rename_i x t0 ha hat;obtain⟨callee,args,tys⟩:=cl;simp only at hb ha hat;subst hb;have ha':args=#[x]:=by apply Array.toList_inj.1;rw[ha]
    have hat':tys=#[t0]:=by apply Array.toList_inj.1;rw[hat]
    subst ha' hat';exact sdataP_out ho rfl hv fun v hv=>hv
   ·rename_i x n pt t1 ha hat;obtain⟨callee,args,tys⟩:=cl;simp only at hb ha hat;subst hb;have ha':args=#[x,n]:=by apply Array.toList_inj.1;rw[ha]
    have hat':tys=#[pt,t1]:=by apply Array.toList_inj.1;rw[hat]
    subst ha' hat';exact ustrP_out ho hv
   ·rename_i x y td ts ha hat;obtain⟨callee,args,tys⟩:=cl;simp only at hb ha hat;subst hb;have ha':args=#[x,y]:=by apply Array.toList_inj.1;rw[ha]
    have hat':tys=#[td,ts]:=by apply Array.toList_inj.1;rw[hat]
    subst ha' hat';exact copyP_out ho hv
   ·rename_i x y ha;obtain⟨callee,args,tys⟩:=cl;simp only at hb ha;subst hb;have ha':args=#[x,y]:=by apply Array.toList_inj.1;rw[ha]
    subst ha';obtain⟨v,h1,h2⟩:=minmaxP_out hv;refine outc_val h1 fun σ F a w hp=>?_;obtain⟨z,h3,h4⟩:=h2 P σ F w _ _ tys o.type (hp x (by simp[ho,Op.operands,Call.operands])) (hp y (by simp[ho,Op.operands,Call.operands]));simp only[cond_false] at h3;exact⟨z,by simp[execOp,ho,resolve,invoke,builtin,h3],h4⟩
   ·rename_i x y ha;obtain⟨callee,args,tys⟩:=cl;simp only at hb ha;subst hb;have ha':args=#[x,y]:=by apply Array.toList_inj.1;rw[ha]
    subst ha';obtain⟨v,h1,h2⟩:=minmaxP_out hv;refine outc_val h1 fun σ F a w hp=>?_;obtain⟨z,h3,h4⟩:=h2 P σ F w _ _ tys o.type (hp x (by simp[ho,Op.operands,Call.operands])) (hp y (by simp[ho,Op.operands,Call.operands]));simp only[cond_true] at h3;exact⟨z,by simp[execOp,ho,resolve,invoke,builtin,h3],h4⟩
   ·exact hv.elim
  ·rename_i f hf;obtain⟨callee,args,tys⟩:=cl;simp only at hf;subst hf;have hargs:∀(σ:Sg) (F:Fzn) (w:World) (a:Act),(∀x∈o.op.operands,PRep σ F w (e x) (a.eval x))->(PRep σ F w (e f) (a.eval f))/\∀x∈args.toList,PRep σ F w (e x) (a.eval x):=by
    intro σ F w a hx;refine⟨hx f (by simp[ho,Op.operands,Call.operands]),fun x hxm=>hx x ?_⟩;simp only[ho,Op.operands,Call.operands,Array.mem_append];exact .inr (by simpa using hxm)
   split at hv
   ·rename_i g first captured hg
    split at hv
    ·rename_i h1 h2;obtain⟨ys,hv,hys⟩:=mapE_out hv;refine callFn_out ho (fun σ F w a hx=>⟨[],[],?_,?_⟩) hv
     ·have:=(hargs σ F w a hx).1;rw[hg] at this;rw[rep_v this];have hf1:first=#[]:=by apply Array.toList_inj.1;rw[h1]
      have hf2:captured=#[]:=by apply Array.toList_inj.1;rw[h2]
      rw[hf1,hf2]
     ·simpa using hys σ F w a.eval (hargs σ F w a hx).2
    ·exact hv.elim
   ·rename_i g da dl hg;obtain⟨ys,hv,hys⟩:=mapE_out hv;refine callFn_out ho (fun σ F w a hx=>?_) (forceL_out (K:=fun zs=>CallP P g zs h K X) hv);have:=(hargs σ F w a hx).1;rw[hg] at this;unfold PRep DRep at this;obtain⟨us,vs,g1,g2,g3⟩:=this;exact⟨us,vs,g1,psRep_append (psRep_pds g2) (psRep_append (hys σ F w a.eval (hargs σ F w a hx).2) (psRep_pds g3))⟩
   ·rename_i g dl hg;obtain⟨ys,hv,hys⟩:=mapE_out hv;refine callFn_out ho (fun σ F w a hx=>?_) hv;have:=(hargs σ F w a hx).1;rw[hg] at this;unfold PRep DRep at this;obtain⟨us,g1,g2⟩:=this;refine⟨[.agg us.toArray],[],g1,?_⟩;show PsRep σ F w (PV.agg dl::ys) (Value.agg us.toArray::(_++[]));rw[List.append_nil];unfold PsRep;exact⟨by unfold PRep;exact⟨us,rfl,g2⟩,hys σ F w a.eval (hargs σ F w a hx).2⟩
   ·exact hv.elim
  ·exact hv.elim
 ·
  rename_i t x ho;obtain⟨v,h1,h2⟩:=ifaceP_out hv;refine outc_val h1 fun σ F a w hp=>?_;obtain⟨z,h3,h4⟩:=h2 σ F w _ (hp x (by simp[ho,Op.operands]));exact⟨z,by simp[execOp,ho,h3],h4⟩
 ·
  rename_i x xt asserted ok ho;obtain⟨v,h1,h2⟩:=assertP_out hv;refine outc_val h1 fun σ F a w hp=>?_;obtain⟨z,h3,h4⟩:=h2 σ F w _ xt (hp x (by simp[ho,Op.operands]));exact⟨z,by simp[execOp,ho,h3],h4⟩
 ·rename_i t n cc ho;exact makeP_out ho hv
 ·
  rename_i f first captured ho
  obtain⟨ys,hv,hys⟩:=mapE_out hv;unfold mkFnP at hv;split at hv
  ·rename_i l hcap;refine outc_val hv fun σ F a w hp=>⟨.func (.func f) (first.map a.eval) (captured.map a.eval),by simp[execOp,ho,Instr.makeFunc],?_⟩;unfold PRep DRep;have m1:∀x∈first.toList,PRep σ F w (e x) (a.eval x):=fun x hx=>hp x (by simp only[ho,Op.operands,Array.mem_append];exact .inl (by simpa using hx))
   have h1:=hys σ F w a.eval m1;have hc0:captured=#[]:=by apply Array.toList_inj.1;rw[hcap]
   subst hc0;cases hq:first.toList.map a.eval with
   | nil=>rw[hq] at h1;unfold PsRep at h1;exact h1.elim|cons u us=>
    rw[hq] at h1;unfold PsRep at h1;obtain⟨h2,h3⟩:=h1;cases us with
    | cons _ _=>unfold PsRep at h3;exact h3.elim|nil=>
     unfold PRep at h2;obtain⟨xs,rfl,h4⟩:=h2;refine⟨xs,?_,h4⟩;have:first.map a.eval=#[.agg xs.toArray]:=by apply Array.toList_inj.1;rw[Array.toList_map,hq]
     rw[this,Array.map_empty]
  ·obtain⟨da,hv,hda⟩:=dsOf_out hv;obtain⟨zs,hv,hzs⟩:=mapE_out hv;obtain⟨dl,hv,hdl⟩:=dsOf_out hv;refine outc_val hv fun σ F a w hp=>⟨.func (.func f) (first.map a.eval) (captured.map a.eval),by simp[execOp,ho,Instr.makeFunc],?_⟩;unfold PRep DRep;have m1:∀x∈first.toList,PRep σ F w (e x) (a.eval x):=fun x hx=>hp x (by simp only[ho,Op.operands,Array.mem_append];exact .inl (by simpa using hx))
   have m2:∀x∈captured.toList,PRep σ F w (e x) (a.eval x):=fun x hx=>hp x (by simp only[ho,Op.operands,Array.mem_append];exact .inr (by simpa using hx));exact⟨first.toList.map a.eval,captured.toList.map a.eval,by simp[<- Array.toList_map],hda _ _ _ _ (hys σ F w a.eval m1),hdl _ _ _ _ (hzs σ F w a.eval m2)⟩
 ·
  rename_i x ho;split at hv
  ·rename_i t v hx;refine .inr ⟨_,[],hv,by simp,?_⟩;intro c σ h' a w hc hs hp hrf next Q KK
   have e1:=hp x (by simp[ho,Op.operands]);rw[hx] at e1;unfold Oper.wp;simp only[execOp,ho,rep_v e1,Instr.panic,goPanic,Sem.run_bind,Sem.run_halt,Result.andThen_halt];exact KK w σ Evo.refl hs (fun _ h=>h)
  ·exact hv.elim
 ·exact hv.elim
end Go.Proofs.Ytdjbckknghddpaa.Pm
end
section
namespace Go.Proofs.Ytdjbckknghddpaa.Pm
open Go.RowKit
def dstP (nt:Nat) (d:Option Tmp) (v:PV) (e:Env) (K:Env->Prop):Prop:=match d with
 | none=>K e|some t=>match Nat.blt t nt with
  | true=>K (upd e t v)|false=>False
abbrev Kn:=List (Nat×Bool)
def knF:Kn->Nat->Option Bool
 | [],_=>none|(t,b)::l,k=>bif Nat.beq k t then some b else knF l k
def knDel (d:Option Tmp) (kn:Kn):Kn:=match d with
 | none=>kn|some t=>kn.filter fun p=>!Nat.beq p.1 t
def guardP (ops:Array Oper) (o:Oper) (e:Env) (kn:Kn) (A B:Env->Kn->Prop):Prop:=match o.guard with
 | none=>A e kn|some (j,want)=>match ops[j]? with
  | some oj=>match oj.dst with
   | some t=>match knF kn t with
    | some b=>match b,want with
     | true,true=>A e kn|false,false=>A e kn|true,false=>B e kn|false,true=>B e kn
    | none=>match e t with
     | .d (.c (.v (.bool b)))=>match want with
      | true=>BCase b (A (upd e t (pBool true)) ((t,true)::kn)) (B (upd e t (pBool false)) ((t,false)::kn))|false=>BCase b (B (upd e t (pBool true)) ((t,true)::kn)) (A (upd e t (pBool false)) ((t,false)::kn))
     | .tup []=>B e kn|_=>False
   | none=>False
  | none=>False
def opK (kn:Kn) (o:Op):Op:=match o with
 | .pick (.tmp t) a b=>match knF kn t with
  | some true=>.move a|some false=>.move b|none=>.pick (.tmp t) a b
 | o=>o
abbrev Trace:=List (List Nat×List Nat)
def keyOf (nt i:Nat) (o:Oper):Nat:=match o.dst with
 | some t=>t|none=>nt+1+i
def ksHas (k:Nat):List Nat->Bool
 | []=>false|q::r=>bif Nat.beq q k then true else ksHas k r
def newP (rf:Rf) (ks:List Nat):Dl->Prop->Prop
 | [],A=>A|(k,_)::δ,A=>match rfHas k rf with
  | true=>newP rf ks δ A|false=>match ksHas k ks with
   | true=>False|false=>newP rf ks δ A
def addKs:Dl->List Nat->(List Nat->Prop)->Prop
 | [],ks,K=>K ks|(k,_)::δ,ks,K=>addKs δ (k::ks) K
abbrev XT:=Value->Env->Hp->List Nat->Prop
noncomputable def vcOps (P:Program) (nt:Nat) (ops:Array Oper) (l:List Oper):Nat->Env->Hp->Kn->List Nat->Trace->XT->(Env->Hp->List Nat->Trace->Prop)->Prop:=
 List.rec (motive:=fun _=>Nat->Env->Hp->Kn->List Nat->Trace->XT->(Env->Hp->List Nat->Trace->Prop)->Prop) (fun _ e h _ ks tr _ K=>K e h ks tr)
  (fun o _ ih i e h kn ks tr X K=>guardP ops o e kn
   (fun e kn=>vcOp P (keyOf nt i o) o.type (opK kn o.op) (ev e) h (fun v δ rf=>newP rf ks δ (dstP nt o.dst v e fun e'=>addKs δ ks fun ks'=>ih (i+1) e' (Dl.app h δ) (knDel o.dst kn) ks' ((Dl.keys δ,rf.map Prod.fst)::tr) X K)) (fun v h'=>X v e h' ks))
   (fun e kn=>dstP nt o.dst (.tup []) e fun e'=>ih (i+1) e' h (knDel o.dst kn) ks (([],[])::tr) X K)) l
theorem vcOps_cons {P:Program} {nt:Nat} {ops:Array Oper} {o:Oper} {rest:List Oper} {i:Nat} {e:Env} {h:Hp} {kn:Kn} {ks:List Nat} {tr:Trace} {X:XT} {K:Env->Hp->List Nat->Trace->Prop} :
  vcOps P nt ops (o::rest) i e h kn ks tr X K=guardP ops o e kn
   (fun e kn=>vcOp P (keyOf nt i o) o.type (opK kn o.op) (ev e) h (fun v δ rf=>newP rf ks δ (dstP nt o.dst v e fun e'=>addKs δ ks fun ks'=>vcOps P nt ops rest (i+1) e' (Dl.app h δ) (knDel o.dst kn) ks' ((Dl.keys δ,rf.map Prod.fst)::tr) X K)) (fun v h'=>X v e h' ks))
   (fun e kn=>dstP nt o.dst (.tup []) e fun e'=>vcOps P nt ops rest (i+1) e' h (knDel o.dst kn) ks (([],[])::tr) X K):=rfl
def meets (a b:List Nat):Bool:=match a with
 | []=>false|x::xs=>match b with
  | []=>false|y::ys=>(x::xs).any fun x=>(y::ys).any fun y=>Nat.beq x y
def optIn (d:Option Tmp) (l:List Nat):Bool:=match d with
 | none=>false|some t=>l.any fun y=>Nat.beq t y
def clash (ops:Array Oper) (x y:Oper) (a b:List Nat×List Nat):Bool:=
 optIn x.dst (y.looksAt ops)||optIn y.dst (x.looksAt ops)||(match x.dst with | some t=>optIn y.dst [t] | none=>false)||meets a.1 b.1||meets a.1 b.2||meets a.2 b.1
def dependsOn (y:Oper) (i:Nat):Bool:=y.after.toList.any fun e=>Region.binds .any e&&Nat.beq e.on i
def dep2 (ops:Array Oper) (y:Oper) (i:Nat):Bool:=dependsOn y i||y.after.toList.any fun e=>Region.binds .any e&&(match ops[e.on]? with
 | some z=>dependsOn z i|none=>false)
def chkOne (ops:Array Oper) (y:Oper) (b:List Nat×List Nat):Nat->List Oper->Trace->Bool
 | i+1,x::xs,a::as_=>(dep2 ops y i||!clash ops x y a b)&&chkOne ops y b i xs as_|0,[],[]=>true|_,_,_=>false
def chkAll (ops:Array Oper):Nat->List Oper->Trace->Bool
 | j+1,y::ys,b::bs=>(y.after.toList.all fun e=>!Region.binds .any e||Nat.blt e.on j)&&chkOne ops y b j ys bs&&chkAll ops j ys bs|0,[],[]=>true|_,_,_=>false
def dstNodup:List Oper->Bool
 | []=>true|x::xs=>(xs.all fun y=>match x.dst with | some t=>!optIn y.dst [t] | none=>true)&&dstNodup xs
def noselL:List Oper->Bool
 | []=>true|o::r=>match o.op with | .select ..=>false | _=>noselL r
theorem noselL_eq:∀l:List Oper,noselL l=l.all fun o=>match o.op with | .select ..=>false | _=>true
 | []=>rfl|o::r=>by
  unfold noselL;rw[all_cons,<- noselL_eq r];split<;>simp
theorem nosel_of {ops:Array Oper} (h:noselL ops.toList=true):Region.noSelect ops=true:=by
 rw[noselL_eq] at h;unfold Region.noSelect;rw[<- Array.all_toList];exact h
def chk (ops:Array Oper) (tr:Trace):Bool:=chkAll ops ops.size ops.toList.reverse tr&&(noselL ops.toList&&dstNodup ops.toList)
noncomputable def regionP (P:Program) (nt:Nat) (ops:Array Oper) (draw:Bool) (e:Env) (h:Hp) (ks:List Nat) (X:XT) (K:Env->Hp->List Nat->Prop):Prop:=match draw with
 | false=>vcOps P nt ops ops.toList 0 e h [] ks [] X fun e' h' ks' _=>K e' h' ks'
 | true=>vcOps P nt ops ops.toList 0 e h [] ks [] (fun _ _ _ _=>False) fun e' h' ks' tr=>match chk ops tr with
  | true=>K e' h' ks'|false=>False
def updO (e:Env) (d:Option Tmp) (v:PV):Env:=match d with
 | none=>e|some t=>upd e t v
structure Tr where
 v:PV
 δ:Dl
 rf:Rf
 w:Bool
section
variable (e0:Env) (h0:Hp) (dst:Nat->Option Tmp) (T:Nat->Tr)
def envF:Nat->(Nat->Bool)->Env
 | 0,_=>e0|n+1,S=>if S n then updO (envF n S) (dst n) (T n).v else envF n S
def hpF:Nat->(Nat->Bool)->Hp
 | 0,_=>h0|n+1,S=>if S n then Dl.app (hpF n S) (T n).δ else hpF n S
theorem updO_ne {e:Env} {d:Option Tmp} {v:PV} {t:Nat} (h:d≠some t):updO e d v t=e t:=by
 cases d with
 | none=>rfl|some t'=>exact upd_ne _ _ fun e=>h (by rw[e])
theorem updO_comm {e:Env} {d d':Option Tmp} {v v':PV} (h:∀t,d=some t->d'≠some t):updO (updO e d v) d' v'=updO (updO e d' v') d v:=by
 cases d with
 | none=>rfl|some t=>
  cases d' with
  | none=>rfl|some t'=>exact upd_comm _ _ _ fun e=>h t rfl (by rw[e])
theorem app_at {k:Nat}:∀{δ:Dl} {h:Hp},k∉Dl.keys δ->Dl.app h δ k=h k
 | [],_,_=>rfl|(q,b)::δ,h,hk=>by
  simp only[Dl.keys,map_cons,mem_cons,not_or] at hk;show Dl.app (upd h q b) δ k=h k;rw[app_at hk.2,upd_ne _ _ hk.1]
theorem app_congr {k:Nat}:∀{δ:Dl} {h h':Hp},h k=h' k->Dl.app h δ k=Dl.app h' δ k
 | [],_,_,e=>e|(q,b)::δ,h,h',e=>by
  show Dl.app (upd h q b) δ k=Dl.app (upd h' q b) δ k;refine app_congr ?_;by_cases hq:k=q
  ·subst hq;rw[upd_same,upd_same]
  ·rw[upd_ne _ _ hq,upd_ne _ _ hq,e]
theorem app_hit {k:Nat}:∀{δ:Dl} {h h':Hp},k∈Dl.keys δ->Dl.app h δ k=Dl.app h' δ k
 | [],_,_,hk=>by simp[Dl.keys] at hk
 | (q,b)::δ,h,h',hk=>by
  show Dl.app (upd h q b) δ k=Dl.app (upd h' q b) δ k;by_cases hd:k∈Dl.keys δ
  ·exact app_hit hd
  ·simp only[Dl.keys,map_cons,mem_cons] at hk;rcases hk with rfl | hk
   ·exact app_congr (by rw[upd_same,upd_same])
   ·exact absurd hk hd
theorem app_comm {h:Hp} {δ δ':Dl} (hd:∀k∈Dl.keys δ,k∉Dl.keys δ'):Dl.app (Dl.app h δ) δ'=Dl.app (Dl.app h δ') δ:=by
 funext k
 by_cases h1:k∈Dl.keys δ
 ·rw[app_at (hd k h1)];exact app_hit h1
 ·rw[app_at (δ:=δ) h1];by_cases h2:k∈Dl.keys δ'
  ·exact app_hit h2
  ·rw[app_at h2,app_at h2,app_at h1]
theorem envF_agree {S S':Nat->Bool} {t:Tmp}:∀n,(∀j,j<n->dst j=some t->S j=S' j)->envF e0 dst T n S t=envF e0 dst T n S' t
 | 0,_=>rfl|n+1,h=>by
  have ih:=envF_agree n fun j hj=>h j (by omega);unfold envF;by_cases hd:dst n=some t
  ·rw[h n (by omega) hd];split
   ·rw[hd];show upd _ t _ t=upd _ t _ t;rw[upd_same,upd_same]
   ·exact ih
  ·have u:∀e v,updO e (dst n) v t=e t:=fun e v=>updO_ne hd;split<;>split<;>first|exact ih | (simp only[u];exact ih)
theorem hpF_agree {S S':Nat->Bool} {k:Nat}:∀n,(∀j,j<n->k∈Dl.keys (T j).δ->S j=S' j)->hpF h0 T n S k=hpF h0 T n S' k
 | 0,_=>rfl|n+1,h=>by
  have ih:=hpF_agree n fun j hj=>h j (by omega);unfold hpF;by_cases hd:k∈Dl.keys (T n).δ
  ·rw[h n (by omega) hd];split
   ·exact app_hit hd
   ·exact ih
  ·have u:∀hh,Dl.app hh (T n).δ k=hh k:=fun hh=>app_at hd;split<;>split<;>first|exact ih | (simp only[u];exact ih)
theorem envF_lt {i:Nat}:∀n,i<=n->∀t,envF e0 dst T n (fun j=>decide (j<i)) t=envF e0 dst T i (fun _=>true) t
 | 0,h,t=>by rw[show i=0 by omega];rfl
 | n+1,h,t=>by
  by_cases hi:i=n+1
  ·subst hi;exact envF_agree e0 dst T _ fun j hj _=>by simp[hj]
  ·rw[<- envF_lt n (by omega) t];show (if (decide (n<i))=true then updO (envF e0 dst T n (fun j=>decide (j<i))) (dst n) (T n).v else envF e0 dst T n (fun j=>decide (j<i))) t=_;rw[if_neg (by simp;omega)]
theorem hpF_lt {i:Nat}:∀n,i<=n->∀k,hpF h0 T n (fun j=>decide (j<i)) k=hpF h0 T i (fun _=>true) k
 | 0,h,t=>by rw[show i=0 by omega];rfl
 | n+1,h,t=>by
  by_cases hi:i=n+1
  ·subst hi;exact hpF_agree h0 T _ fun j hj _=>by simp[hj]
  ·rw[<- hpF_lt n (by omega) t];show (if (decide (n<i))=true then Dl.app (hpF h0 T n (fun j=>decide (j<i))) (T n).δ else hpF h0 T n (fun j=>decide (j<i))) t=_;rw[if_neg (by simp;omega)]
def addS (S:Nat->Bool) (i:Nat):Nat->Bool:=fun j=>if j=i then true else S j
theorem envF_ins {S:Nat->Bool} {i:Nat} (hi:S i=false):∀n,i<n->(∀j,i<j->j<n->S j=true->∀t,dst j=some t->dst i≠some t)->
  envF e0 dst T n (addS S i)=updO (envF e0 dst T n S) (dst i) (T i).v
 | 0,h,_=>by omega
 | n+1,h,hd=>by
  by_cases hn:i=n
  ·subst hn;have e1:envF e0 dst T i (addS S i)=envF e0 dst T i S:=by
    funext t
    exact envF_agree e0 dst T i fun j hj _=>by simp[addS];omega
   unfold envF;rw[e1,hi];simp[addS]
  ·have ih:=envF_ins hi n (by omega) fun j h1 h2=>hd j h1 (by omega);unfold envF;rw[ih];have e2:addS S i n=S n:=by simp[addS];omega
   rw[e2];split
   ·rename_i hs;exact updO_comm fun t ht ht'=>hd n (by omega) (by omega) hs t ht' ht
   ·rfl
theorem hpF_ins {S:Nat->Bool} {i:Nat} (hi:S i=false):∀n,i<n->(∀j,i<j->j<n->S j=true->∀k∈Dl.keys (T i).δ,k∉Dl.keys (T j).δ)->
  hpF h0 T n (addS S i)=Dl.app (hpF h0 T n S) (T i).δ
 | 0,h,_=>by omega
 | n+1,h,hd=>by
  by_cases hn:i=n
  ·subst hn;have e1:hpF h0 T i (addS S i)=hpF h0 T i S:=by
    funext t
    exact hpF_agree h0 T i fun j hj _=>by simp[addS];omega
   unfold hpF;rw[e1,hi];simp[addS]
  ·have ih:=hpF_ins hi n (by omega) fun j h1 h2=>hd j h1 (by omega);unfold hpF;rw[ih];have e2:addS S i n=S n:=by simp[addS];omega
   rw[e2];split
   ·rename_i hs;exact app_comm (hd n (by omega) (by omega) hs)
   ·rfl
end
end Go.Proofs.Ytdjbckknghddpaa.Pm
namespace Go.Proofs.Ytdjbckknghddpaa.Pm
open Go.RowKit
theorem st_put {c:Ctx} {nt:Nat} {σ σ':Sg} {e:Env} {h h':Hp} {a:Act} {w w':World} {d:Option Tmp} {v:PV} {u:Value} (hs:St c nt σ e h a w) (ev:Evo σ σ' (fz c σ h w) (fz c σ' h' w') w w')
  (hw:SW c σ' h' w') (hv:PRep σ' (fz c σ' h' w') w' v u) (hd:∀t,d=some t->t<nt):St c nt σ' (updO e d v) h' (a.put d u) w' where
 toSW:=hw
 env:=fun t=>by
  cases d with
  | none=>exact PRep.evo ev _ _ (hs.env t)|some t'=>
   have ht:=hd t' rfl;by_cases e1:t=t'
   ·subst e1;show PRep _ _ _ (upd e t v t) _;rw[upd_same];have:(a.put (some t) u).tmps.getD t undef=u:=by
     simp[Act.put,hs.nt,ht]
    rw[this];exact hv
   ·show PRep _ _ _ (upd e t' v t) _;rw[upd_ne _ _ e1];have:(a.put (some t') u).tmps.getD t undef=a.tmps.getD t undef:=by
     simp[Act.put,Array.getElem?_setIfInBounds_ne (Ne.symm e1)]
    rw[this];exact PRep.evo ev _ _ (hs.env t)
 defers:=by cases d<;>exact hs.defers
 nt:=by
  cases d with
  | none=>exact hs.nt|some t'=>simpa [Act.put] using hs.nt
theorem rep_undef {σ:Sg} {F:Fzn} {w:World}:PRep σ F w (.tup []) undef:=by unfold PRep;exact⟨[],rfl,by unfold PsRep;trivial⟩
theorem rep_ev {c:Ctx} {nt:Nat} {σ:Sg} {e:Env} {h:Hp} {a:Act} {w:World} (hs:St c nt σ e h a w) (x:Operand):PRep σ (fz c σ h w) w (ev e x) (a.eval x):=by
 cases x with
 | tmp t=>exact hs.env t|const v=>
  show PRep _ _ _ (constPV v) v;unfold constPV;split
  ·rename_i cs;cases hb:cs.toList.all Value.oneCell' with
   | false=>simp only[cond_false];unfold PRep;trivial|true=>
    simp only[cond_true];unfold PRep;refine⟨cs.toList,by simp,?_⟩;have:∀l:List Value,l.all Value.oneCell'=true->DsRep σ (fz c σ h w) w (l.map fun x=>D.c (C.v x)) l:=by
     intro l;induction l with
     | nil=>intro _;exact dsRep_nil
     | cons x l ih=>
      intro hl;simp only[all_cons,Bool.and_eq_true] at hl;exact dsRep_cons (by unfold DRep CRep;exact⟨rfl,hl.1⟩) (ih hl.2)
    exact this _ hb
  ·unfold PRep;trivial
  ·rename_i h1 h2;refine rep_of ?_;cases v<;>first|rfl|exact absurd rfl (h1 _) | exact absurd rfl (h2 _)
 | global g=>exact rep_of rfl|func f=>exact rep_of rfl
def GuardIs (ops:Array Oper) (o:Oper) (e:Env) (b:Bool):Prop:=match o.guard with
 | none=>b=true|some (j,want)=>∃oj t,ops[j]? = some oj/\oj.dst=some t/\(e t=pBool (want==b)\/(b=false/\e t=.tup []))
def KnOk (e:Env) (kn:Kn):Prop:=∀t b,knF kn t=some b->e t=pBool b
theorem upd_id {e:Env} {t:Nat} {v:PV} (h:e t=v):upd e t v=e:=by
 funext j
 by_cases hj:j=t
 ·subst hj;rw[upd_same,h]
 ·rw[upd_ne _ _ hj]
theorem knOk_cons {e:Env} {kn:Kn} {t:Nat} {b:Bool} (hk:KnOk e kn) (h:e t=pBool b):KnOk e ((t,b)::kn):=by
 intro j b' hj;unfold knF at hj;cases hq:Nat.beq j t with
 | true=>rw[hq,cond_true] at hj;cases hj;rw[eq_of_beq_eq_true hq];exact h
 | false=>rw[hq,cond_false] at hj;exact hk j b' hj
theorem knOk_upd {e:Env} {kn:Kn} {d:Option Tmp} {v:PV} (hk:KnOk e kn):KnOk (updO e d v) (knDel d kn):=by
 cases d with
 | none=>exact hk|some t=>
  intro j b hj;have key:∀kn:Kn,knF (kn.filter fun p=>!Nat.beq p.1 t) j=some b->j≠t/\knF kn j=some b:=by
   intro kn;induction kn with
   | nil=>intro h;cases h
   | cons p kn ih=>
    obtain⟨q,b'⟩:=p;intro h;rw[List.filter_cons] at h;cases hq:Nat.beq q t with
    | true=>
     rw[hq] at h;simp only[Bool.not_true,Bool.false_eq_true,if_false] at h;obtain⟨h1,h2⟩:=ih h;refine⟨h1,?_⟩;unfold knF;have:Nat.beq j q=false:=by rw[Bool.eq_false_iff];intro e1;exact h1 ((eq_of_beq_eq_true e1).trans (eq_of_beq_eq_true hq))
     rw[this,cond_false];exact h2
    | false=>
     rw[hq] at h;simp only[Bool.not_false,if_true] at h;unfold knF at h ⊢;cases hjq:Nat.beq j q with
     | true=>
      rw[hjq,cond_true] at h;refine⟨?_,by rw[cond_true];exact h⟩;intro e1;rw[<- eq_of_beq_eq_true hjq,e1,beq_refl] at hq;cases hq
     | false=>
      rw[hjq,cond_false] at h;obtain⟨h1,h2⟩:=ih h;exact⟨h1,by rw[cond_false];exact h2⟩
  obtain⟨h1,h2⟩:=key kn hj;show upd e t v j=_;rw[upd_ne _ _ h1];exact hk j b h2
theorem guardP_out {ops:Array Oper} {o:Oper} {e:Env} {kn:Kn} {A B:Env->Kn->Prop} (h:guardP ops o e kn A B) (hk:KnOk e kn) :
  (GuardIs ops o e true/\∃kn',KnOk e kn'/\A e kn')\/(GuardIs ops o e false/\∃kn',KnOk e kn'/\B e kn'):=by
 unfold guardP at h;unfold GuardIs;split at h
 ·rename_i hg;(try rw[hg]);exact .inl ⟨rfl,kn,hk,h⟩
 ·rename_i j want hg
  try rw[hg]
  split at h
  ·rename_i oj hj;split at h
   ·rename_i t ht;split at h
    ·rename_i b hb;have hv:=hk t b hb;split at h
     ·exact .inl ⟨⟨oj,t,hj,ht,.inl hv⟩,kn,hk,h⟩
     ·exact .inl ⟨⟨oj,t,hj,ht,.inl hv⟩,kn,hk,h⟩
     ·exact .inr ⟨⟨oj,t,hj,ht,.inl hv⟩,kn,hk,h⟩
     ·exact .inr ⟨⟨oj,t,hj,ht,.inl hv⟩,kn,hk,h⟩
    ·split at h
     ·rename_i b hb;have go:∀{C:Env->Kn->Prop},C (upd e t (pBool b)) ((t,b)::kn)->∃kn',KnOk e kn'/\C e kn':=by
       intro C hC;rw[upd_id hb] at hC;exact⟨_,knOk_cons hk hb,hC⟩
      cases want with
      | true=>
       obtain⟨h1,h2⟩:=h;cases b with
       | true=>exact .inl ⟨⟨oj,t,hj,ht,.inl hb⟩,go (h1 rfl)⟩|false=>exact .inr ⟨⟨oj,t,hj,ht,.inl hb⟩,go (h2 rfl)⟩
      | false=>
       obtain⟨h1,h2⟩:=h;cases b with
       | true=>exact .inr ⟨⟨oj,t,hj,ht,.inl hb⟩,go (h1 rfl)⟩|false=>exact .inl ⟨⟨oj,t,hj,ht,.inl hb⟩,go (h2 rfl)⟩
     ·rename_i hb;exact .inr ⟨⟨oj,t,hj,ht,.inr ⟨rfl,hb⟩⟩,kn,hk,h⟩
     ·exact h.elim
   ·exact h.elim
  ·exact h.elim
theorem vcOpK_out {P:Program} {o:Oper} {key:Nat} {e:Env} {kn:Kn} {h:Hp} {K:OpK} {X:Value->Hp->Prop} (hk:KnOk e kn) (hv:vcOp P key o.type (opK kn o.op) (ev e) h K X):Outc P o (ev e) h K X:=by
 unfold opK at hv;split at hv
 ·rename_i t a b ho;have go:∀(x:Operand) (c:Bool),e t=pBool c->x=(if c then a else b)->K (ev e x) [] []->Outc P o (ev e) h K X:=by
   intro x c hc hx hkx;refine outc_val hkx fun σ F ac w hp=>⟨ac.eval x,?_,?_⟩
   ·have h1:=hp (.tmp t) (by simp[ho,Op.operands]);rw[show ev e (.tmp t)=pBool c from hc] at h1;rw[hx];cases c<;>simp[execOp,ho,asBool,rep_v h1]
   ·rw[hx];cases c
    ·exact hp b (by simp[ho,Op.operands])
    ·exact hp a (by simp[ho,Op.operands])
  split at hv
  ·rename_i hq;exact go a true (hk t _ hq) rfl (force_out (K:=fun v=>K v [] []) (by unfold vcOp at hv;exact hv))
  ·rename_i hq;exact go b false (hk t _ hq) rfl (force_out (K:=fun v=>K v [] []) (by unfold vcOp at hv;exact hv))
  ·rw[<- ho] at hv;exact vcOp_out hv
 ·exact vcOp_out hv
theorem ksHas_out {k:Nat}:∀{ks:List Nat},ksHas k ks=false->k∉ks
 | [],_,h=>by cases h
 | q::r,h,hm=>by
  unfold ksHas at h;cases hq:Nat.beq q k with
  | true=>rw[hq] at h;cases h
  | false=>
   rw[hq,cond_false] at h;rcases mem_cons.1 hm with rfl | hm
   ·have:=beq_refl k;rw[show Nat.beq k k=false from hq] at this;cases this
   ·exact ksHas_out h hm
theorem newP_out {rf:Rf} {ks:List Nat} {A:Prop}:∀{δ:Dl},newP rf ks δ A->A/\∀k∈Dl.keys δ,(∀p∈rf,p.1≠k)->k∉ks
 | [],h=>⟨h,by simp[Dl.keys]⟩|(k,b)::δ,h=>by
  unfold newP at h;split at h
  ·rename_i hq;obtain⟨h1,h2⟩:=newP_out h;refine⟨h1,fun k' hk' hp=>?_⟩;simp only[Dl.keys,map_cons,mem_cons] at hk';rcases hk' with rfl | hk'
   ·obtain⟨p,p1,p2⟩:=rfHas_in hq;exact absurd p2 (hp p p1)
   ·exact h2 k' hk' hp
  ·split at h
   ·exact h.elim
   ·rename_i hq;obtain⟨h1,h2⟩:=newP_out h;refine⟨h1,fun k' hk' hp=>?_⟩;simp only[Dl.keys,map_cons,mem_cons] at hk';rcases hk' with rfl | hk'
    ·exact ksHas_out hq
    ·exact h2 k' hk' hp
theorem addKs_out:∀{δ:Dl} {ks:List Nat} {K:List Nat->Prop},addKs δ ks K->∃ks',K ks'/\∀k,k∉ks'->k∉ks/\k∉Dl.keys δ
 | [],ks,K,h=>⟨ks,h,fun k hk=>⟨hk,by simp[Dl.keys]⟩⟩|(k,b)::δ,ks,K,h=>by
  unfold addKs at h;obtain⟨ks',h1,h2⟩:=addKs_out h;refine⟨ks',h1,fun k' hk'=>?_⟩;obtain⟨g1,g2⟩:=h2 k' hk';simp only[mem_cons,not_or] at g1;exact⟨g1.2,by simp only[Dl.keys,map_cons,mem_cons,not_or];exact⟨g1.1,g2⟩⟩
theorem wanted_of {ops:Array Oper} {o:Oper} {e:Env} {b:Bool} {σ:Sg} {F:Fzn} {w:World} {tmps:Array Value} (hg:GuardIs ops o e b) (he:∀t,PRep σ F w (e t) (tmps.getD t undef)) :
  Region.wanted o (yielded ops tmps)=b:=by
 unfold GuardIs at hg;unfold Region.wanted;cases hgd:o.guard with
 | none=>rw[hgd] at hg;rw[hg]|some p=>
  obtain⟨j,want⟩:=p;rw[hgd] at hg;obtain⟨oj,t,h1,h2,h3⟩:=hg;have h4:=he t;rcases h3 with h3 | ⟨rfl,h3⟩
  case inr=>
   rw[h3] at h4;unfold PRep at h4;obtain⟨us,h5,h6⟩:=h4;have h7:us=[]:=by
    cases us with
    | nil=>rfl|cons x xs=>unfold PsRep at h6;exact h6.elim
   subst h7;have:yielded ops tmps j=none:=by
    unfold yielded;rw[Array.getD_eq_getD_getElem?] at h5;cases hq:tmps[t]? with
    | none=>simp[h1,h2,hq]|some x=>rw[hq] at h5;simp at h5;simp[h1,h2,hq,h5]
   show (yielded ops tmps j==some want)=false;rw[this];rfl
  rw[h3] at h4;have h5:=rep_v h4;have h6:tmps[t]? = some (.bool (want==b)):=by
   rw[Array.getD_eq_getD_getElem?] at h5;cases hq:tmps[t]? with
   | none=>rw[hq] at h5;simp[undef] at h5|some x=>rw[hq] at h5;simp at h5;rw[h5]
  have:yielded ops tmps j=some (want==b):=by unfold yielded;simp[h1,h2,h6]
  show (yielded ops tmps j==some want)=b;rw[this];cases want<;>cases b<;>rfl
theorem dstP_out {nt:Nat} {d:Option Tmp} {v:PV} {e:Env} {K:Env->Prop} (h:dstP nt d v e K):K (updO e d v)/\∀t,d=some t->t<nt:=by
 unfold dstP at h;split at h
 ·exact⟨h,fun t ht=>by cases ht⟩
 ·rename_i t;split at h
  ·rename_i hb;exact⟨h,fun t' ht=>by cases ht;exact le_of_ble_eq_true hb⟩
  ·exact h.elim
theorem addKs_out2:∀{δ:Dl} {ks:List Nat} {K:List Nat->Prop},addKs δ ks K->∃ks',K ks'/\(∀k,k∉ks'->k∉ks/\k∉Dl.keys δ)/\∀k,(k∈ks\/k∈Dl.keys δ)->k∈ks'
 | [],ks,K,h=>⟨ks,h,fun k hk=>⟨hk,by simp[Dl.keys]⟩,fun k hk=>by simpa [Dl.keys] using hk⟩|(k,b)::δ,ks,K,h=>by
  unfold addKs at h;obtain⟨ks',h1,h2,h3⟩:=addKs_out2 h;refine⟨ks',h1,fun k' hk'=>?_,fun k' hk'=>h3 k' ?_⟩
  ·obtain⟨g1,g2⟩:=h2 k' hk';simp only[mem_cons,not_or] at g1;exact⟨g1.2,by simp only[Dl.keys,map_cons,mem_cons,not_or];exact⟨g1.1,g2⟩⟩
  ·simp only[Dl.keys,map_cons,mem_cons] at hk' ⊢;rcases hk' with h | h | h
   ·exact .inl (.inr h)
   ·exact .inl (.inl h)
   ·exact .inr h
theorem plain_order {P:Program} {nt:Nat} {ops:Array Oper} {c:Ctx} (hc:c.Ok) {Q:Exit->Act->World->Prop} {X:XT} {K:Env->Hp->List Nat->Trace->Prop}
  (hpan:∀x e h ks σ a w,X x e h ks->St c nt σ e h a w->(∀k,k∉ks->σ k=none)->Q (.panic [{ v:=x,recovered:=false }]) a w)
  (hfin:∀e h ks tr σ a w,K e h ks tr->St c nt σ e h a w->(∀k,k∉ks->σ k=none)->Q .normal a w) :
  ∀(rest:List Oper) (i:Nat) (e:Env) (h:Hp) (kn:Kn) (ks:List Nat) (tr:Trace) (σ:Sg) (a:Act) (w:World),vcOps P nt ops rest i e h kn ks tr X K->KnOk e kn->St c nt σ e h a w->(∀k,k∉ks->σ k=none)->
   wpList P ops Q rest a w
 | [],i,e,h,kn,ks,tr,σ,a,w,hv,_,hs,hf=>hfin e h ks tr σ a w hv hs hf|o::rest,i,e,h,kn,ks,tr,σ,a,w,hv,hkn,hs,hf=>by
  rw[vcOps_cons] at hv;rcases guardP_out hv hkn with ⟨hg,kn',hkn',hv⟩ | ⟨hg,kn',hkn',hv⟩
  ·have hw:=wanted_of hg hs.env;unfold wpList;rw[if_pos hw];rcases vcOpK_out hkn' hv with ⟨v,δ,rf,hk,hrf,hsem⟩ | ⟨x,rf,hx,hrf,hsem⟩
   ·obtain⟨hk,hnew⟩:=newP_out hk;obtain⟨hk,hd⟩:=dstP_out hk;obtain⟨ks',hk,hks⟩:=addKs_out hk;refine .inl (hsem c σ h a w hc hs.toSW (fun x _=>rep_ev hs x) hrf (fun k hk hp=>hf k (hnew k hk hp)) _ _ ?_);intro u σ' w' ev hsw hpr hfr;exact plain_order hc hpan hfin rest (i+1) _ _ _ ks' _ σ' _ w' hk (knOk_upd hkn') (st_put hs ev hsw hpr hd) fun k hk'=>hfr k (hks k hk').2 (hf k (hks k hk').1)
   ·exact .inl (hsem c σ h a w hc hs.toSW (fun x _=>rep_ev hs x) hrf _ _ fun w' σ' ev hsw hfr=>hpan x e _ ks σ' a w' hx ⟨hsw,fun t=>PRep.evo ev _ _ (hs.env t),hs.defers,hs.nt⟩ fun k hk=>hfr k (hf k hk))
  ·have hw:=wanted_of hg hs.env;obtain⟨hk,hd⟩:=dstP_out hv;unfold wpList;rw[if_neg (by rw[hw];simp)];exact plain_order hc hpan hfin rest (i+1) _ _ _ ks _ σ _ w hk (knOk_upd hkn') (st_put hs Evo.refl hs.toSW rep_undef hd) hf
end Go.Proofs.Ytdjbckknghddpaa.Pm
namespace Go.Proofs.Ytdjbckknghddpaa.Pm
open Go.RowKit
def dstOf (ops:Array Oper) (j:Nat):Option Tmp:=(ops[j]?).bind (·.dst)
section
variable (ops:Array Oper) (e0:Env) (h0:Hp) (T:Nat->Tr)
abbrev envT (i:Nat):Env:=envF e0 (dstOf ops) T i fun _=>true
abbrev hpT (i:Nat):Hp:=hpF h0 T i fun _=>true
def entry (i:Nat):List Nat×List Nat:=if (T i).w then (Dl.keys (T i).δ,(T i).rf.map Prod.fst) else ([],[])
def trT:Nat->Trace
 | 0=>[]|i+1=>entry T i::trT i
def Makes (τ:Tr) (k:Nat):Prop:=k∈Dl.keys τ.δ/\∀p∈τ.rf,p.1≠k
def OpOk (P:Program) (nt:Nat) (ks0:List Nat) (i:Nat) (o:Oper):Prop:=
 (∀t,o.dst=some t->t<nt)/\GuardIs ops o (envT ops e0 T i) (T i).w/\
 ((T i).w=false->(T i).v=.tup []/\(T i).δ=[]/\(T i).rf=[])/\
 ((T i).w=true->(∀p∈(T i).rf,hpT h0 T i p.1=some p.2)/\SemStep P o (ev (envT ops e0 T i)) (T i).v (T i).δ (T i).rf/\∀k,Makes (T i) k->k∉ks0/\∀j,j<i->k∉Dl.keys (T j).δ)
end
section
variable {ops:Array Oper} {e0:Env} {h0:Hp} {T T':Nat->Tr}
theorem envF_congr {S:Nat->Bool}:∀n,(∀j,j<n->T j=T' j)->envF e0 (dstOf ops) T n S=envF e0 (dstOf ops) T' n S
 | 0,_=>rfl|n+1,h=>by unfold envF;rw[envF_congr n fun j hj=>h j (by omega),h n (by omega)]
theorem hpF_congr {S:Nat->Bool}:∀n,(∀j,j<n->T j=T' j)->hpF h0 T n S=hpF h0 T' n S
 | 0,_=>rfl|n+1,h=>by unfold hpF;rw[hpF_congr n fun j hj=>h j (by omega),h n (by omega)]
theorem entry_congr {i:Nat} (h:∀j,j<=i->T j=T' j):entry T i=entry T' i:=by
 unfold entry;rw[h i (Nat.le_refl _)]
theorem trT_congr:∀n,(∀j,j<n->T j=T' j)->trT T n=trT T' n
 | 0,_=>rfl|n+1,h=>by
  show _::_=_::_;rw[trT_congr n fun j hj=>h j (by omega),entry_congr fun j hj=>h j (by omega)]
theorem opOk_congr {P:Program} {nt i:Nat} {ks0:List Nat} {o:Oper} (h:∀j,j<=i->T j=T' j) (hk:OpOk ops e0 h0 T P nt ks0 i o):OpOk ops e0 h0 T' P nt ks0 i o:=by
 unfold OpOk at hk ⊢;unfold envT hpT at hk ⊢;rw[<- h i (Nat.le_refl _),<- envF_congr i fun j hj=>h j (by omega),<- hpF_congr i fun j hj=>h j (by omega)];refine⟨hk.1,hk.2.1,hk.2.2.1,fun hw=>⟨(hk.2.2.2 hw).1,(hk.2.2.2 hw).2.1,fun k hm=>⟨((hk.2.2.2 hw).2.2 k hm).1,fun j hj=>?_⟩⟩⟩;rw[<- h j (by omega)];exact ((hk.2.2.2 hw).2.2 k hm).2 j hj
theorem record {P:Program} {nt:Nat} {ks0:List Nat} {K:Env->Hp->List Nat->Trace->Prop}:∀(rest:List Oper) (i:Nat) (kn:Kn) (ks:List Nat) (T:Nat->Tr),(∀j,rest[j]? = ops[i+j]?)->(∀j o,j<i->ops[j]? = some o->OpOk ops e0 h0 T P nt ks0 j o)->
  KnOk (envT ops e0 T i) kn->(∀k,k∉ks->k∉ks0/\∀j,j<i->k∉Dl.keys (T j).δ)->(∀k,k∈ks0->k∈ks)->(∀k j,j<i->k∈Dl.keys (T j).δ->k∈ks)->
  vcOps P nt ops rest i (envT ops e0 T i) (hpT h0 T i) kn ks (trT T i) (fun _ _ _ _=>False) K->
  ∃T' ks',(∀j o,j<i+rest.length->ops[j]? = some o->OpOk ops e0 h0 T' P nt ks0 j o)/\(∀k,k∉ks'->k∉ks0/\∀j,j<i+rest.length->k∉Dl.keys (T' j).δ)/\
   K (envT ops e0 T' (i+rest.length)) (hpT h0 T' (i+rest.length)) ks' (trT T' (i+rest.length))
 | [],i,kn,ks,T,hl,hT,_,hks,_,_,hv=>⟨T,ks,fun j o hj ho=>hT j o (by simpa using hj) ho,fun k hk=>⟨(hks k hk).1,fun j hj=>(hks k hk).2 j (by simpa using hj)⟩,hv⟩|o::rest,i,kn,ks,T,hl,hT,hkn,hks,hm0,hm1,hv=>by
  have ho:ops[i]? = some o:=by have:=hl 0;simpa using this.symm
  have hl':∀j,rest[j]? = ops[i+1+j]?:=fun j=>by have:=hl (j+1);simpa [add_assoc,add_comm 1 j] using this
  rw[vcOps_cons] at hv;have fin:∀(τ:Tr) (kn':Kn) (ks':List Nat),(∀t,o.dst=some t->t<nt)->GuardIs ops o (envT ops e0 T i) τ.w->(τ.w=false->τ.v=.tup []/\τ.δ=[]/\τ.rf=[])->
    (τ.w=true->(∀p∈τ.rf,hpT h0 T i p.1=some p.2)/\SemStep P o (ev (envT ops e0 T i)) τ.v τ.δ τ.rf/\∀k,Makes τ k->k∉ks)->
    KnOk (updO (envT ops e0 T i) o.dst τ.v) kn'->(∀k,k∉ks'->k∉ks/\k∉Dl.keys τ.δ)->(∀k,(k∈ks\/k∈Dl.keys τ.δ)->k∈ks')->
    vcOps P nt ops rest (i+1) (updO (envT ops e0 T i) o.dst τ.v) (Dl.app (hpT h0 T i) τ.δ) kn' ks' ((if τ.w then (Dl.keys τ.δ,τ.rf.map Prod.fst) else ([],[]))::trT T i) (fun _ _ _ _=>False) K->
    ∃T' ks',(∀j o,j<i+(rest.length+1)->ops[j]? = some o->OpOk ops e0 h0 T' P nt ks0 j o)/\(∀k,k∉ks'->k∉ks0/\∀j,j<i+(rest.length+1)->k∉Dl.keys (T' j).δ)/\
     K (envT ops e0 T' (i+(rest.length+1))) (hpT h0 T' (i+(rest.length+1))) ks' (trT T' (i+(rest.length+1))):=by
   intro τ kn' ks' k1 k2 k3 k4 k6 k7 k8 k5;obtain⟨T1,hT1⟩:∃T1:Nat->Tr,T1=fun j=>if j=i then τ else T j:=⟨_,rfl⟩
   have hold:∀j,j<i->T j=T1 j:=fun j hj=>by rw[hT1];simp;omega
   have hnew:T1 i=τ:=by rw[hT1];simp
   have e1:envT ops e0 T1 i=envT ops e0 T i:=(envF_congr i hold).symm;have e2:hpT h0 T1 i=hpT h0 T i:=(hpF_congr i hold).symm;have e3:trT T1 i=trT T i:=(trT_congr i hold).symm;have ok:OpOk ops e0 h0 T1 P nt ks0 i o:=by
    unfold OpOk;rw[e1,e2,hnew];refine⟨k1,k2,k3,fun hw=>⟨(k4 hw).1,(k4 hw).2.1,fun k hm=>⟨fun h=>(k4 hw).2.2 k hm (hm0 k h),fun j hj h=>(k4 hw).2.2 k hm ?_⟩⟩⟩;rw[<- hold j hj] at h;exact hm1 k j hj h
   have g1:envT ops e0 T1 (i+1)=updO (envT ops e0 T i) o.dst τ.v:=by
    show (if true=true then updO (envT ops e0 T1 i) (dstOf ops i) (T1 i).v else _)=_;rw[if_pos rfl,e1,hnew,show dstOf ops i=o.dst by unfold dstOf;rw[ho];rfl]
   have g2:hpT h0 T1 (i+1)=Dl.app (hpT h0 T i) τ.δ:=by
    show (if true=true then Dl.app (hpT h0 T1 i) (T1 i).δ else _)=_;rw[if_pos rfl,e2,hnew]
   have g3:trT T1 (i+1)=(if τ.w then (Dl.keys τ.δ,τ.rf.map Prod.fst) else ([],[]))::trT T i:=by
    show entry T1 i::trT T1 i=_;rw[e3];unfold entry;rw[hnew]
   have:=record (ks0:=ks0) (K:=K) rest (i+1) kn' ks' T1 hl' (fun j o' hj ho'=>by
    by_cases hji:j=i
    ·subst hji;rw[ho] at ho';cases ho';exact ok
    ·exact opOk_congr (fun q hq=>hold q (by omega)) (hT j o' (by omega) ho')) (by rw[g1];exact k6) (fun k hk=>by
    obtain⟨q1,q2⟩:=k7 k hk;obtain⟨q3,q4⟩:=hks k q1;refine⟨q3,fun j hj=>?_⟩;by_cases hji:j=i
    ·subst hji;rw[hnew];exact q2
    ·rw[<- hold j (by omega)];exact q4 j (by omega)) (fun k hk=>k8 k (.inl (hm0 k hk))) (fun k j hj hk=>by
    by_cases hji:j=i
    ·subst hji;rw[hnew] at hk;exact k8 k (.inr hk)
    ·rw[<- hold j (by omega)] at hk;exact k8 k (.inl (hm1 k j (by omega) hk))) (by rw[g1,g2,g3];exact k5)
   rw[show i+1+rest.length=i+(rest.length+1) by omega] at this;exact this
  rcases guardP_out hv hkn with ⟨hg,kn',hkn',hv⟩ | ⟨hg,kn',hkn',hv⟩
  ·rcases vcOpK_out hkn' hv with ⟨v,δ,rf,hk,hrf,hsem⟩ | ⟨x,rf,hx,_⟩
   ·obtain⟨hk,hnew⟩:=newP_out hk;obtain⟨hk,hd⟩:=dstP_out hk;obtain⟨ks',hk,hks',hks2⟩:=addKs_out2 hk;exact fin ⟨v,δ,rf,true⟩ _ ks' hd hg (fun h=>by cases h) (fun _=>⟨hrf,hsem,fun k hm=>hnew k hm.1 hm.2⟩) (knOk_upd hkn') hks' hks2 hk
   ·exact hx.elim
  ·obtain⟨hk,hd⟩:=dstP_out hv;exact fin ⟨.tup [],[],[],false⟩ _ ks hd hg (fun _=>⟨rfl,rfl,rfl⟩) (fun h=>by cases h) (knOk_upd hkn') (fun k hk=>⟨hk,by simp[Dl.keys]⟩) (fun k hk=>by simpa [Dl.keys] using hk) hk
theorem chkOne_out {y:Oper} {b:List Nat×List Nat}:∀(i:Nat),i<=ops.size->chkOne ops y b i (ops.toList.take i).reverse (trT T i)=true->∀k x,k<i->ops[k]? = some x->clash ops x y (entry T k) b=true->dep2 ops y k=true
 | 0,_,_,k,x,hk,_,_=>by omega
 | i+1,hi,h,k,x,hk,hx,hc=>by
  have hlt:i<ops.size:=by omega
  have he:ops.toList.take (i+1)=ops.toList.take i++[ops[i]]:=by
   rw[List.take_succ_eq_append_getElem (by simpa using hlt)];simp
  rw[he,List.reverse_append] at h;unfold trT at h;simp only[List.reverse_cons,List.reverse_nil,nil_append,singleton_append,chkOne,Bool.and_eq_true,Bool.or_eq_true,Bool.not_eq_true'] at h;obtain⟨h1,h2⟩:=h;by_cases hki:k=i
  ·subst hki;have:x=ops[k]:=by rw[Array.getElem?_eq_getElem hlt] at hx;exact (Option.some.inj hx).symm
   subst this;rcases h1 with h1 | h1
   ·exact h1
   ·rw[h1] at hc;cases hc
  ·exact chkOne_out i (by omega) h2 k x (by omega) hx hc
theorem chkAll_out:∀(n:Nat),n<=ops.size->chkAll ops n (ops.toList.take n).reverse (trT T n)=true->∀j y,j<n->ops[j]? = some y->
  (∀e∈y.after,Region.binds .any e=true->e.on<j)/\∀k x,k<j->ops[k]? = some x->clash ops x y (entry T k) (entry T j)=true->dep2 ops y k=true
 | 0,_,_,j,y,hj,_=>by omega
 | n+1,hn,h,j,y,hj,hy=>by
  have hlt:n<ops.size:=by omega
  have he:ops.toList.take (n+1)=ops.toList.take n++[ops[n]]:=by
   rw[List.take_succ_eq_append_getElem (by simpa using hlt)];simp
  rw[he,List.reverse_append] at h;unfold trT at h;simp only[List.reverse_cons,List.reverse_nil,nil_append,singleton_append,chkAll,Bool.and_eq_true] at h;obtain⟨⟨h1,h2⟩,h3⟩:=h;by_cases hjn:j=n
  ·subst hjn;have:y=ops[j]:=by rw[Array.getElem?_eq_getElem hlt] at hy;exact (Option.some.inj hy).symm
   subst this;refine⟨fun e hem hb=>?_,chkOne_out j (by omega) h2⟩;have:=all_eq_true.1 h1 e (Array.mem_def.1 hem);simp only[hb,Bool.not_true,Bool.false_or] at this;exact le_of_ble_eq_true this
  ·exact chkAll_out n (by omega) h3 j y (by omega) hy
theorem dependsOn_out {y:Oper} {k:Nat} (h:dependsOn y k=true):∃e∈y.after,Region.binds .any e=true/\e.on=k:=by
 unfold dependsOn at h;obtain⟨e,he,h1⟩:=any_eq_true.1 h;simp only[Bool.and_eq_true] at h1;exact⟨e,Array.mem_def.2 he,h1.1,eq_of_beq_eq_true h1.2⟩
theorem dep2_out {y:Oper} {k:Nat} (h:dep2 ops y k=true):dependsOn y k=true\/∃e∈y.after,Region.binds .any e=true/\∃z,ops[e.on]? = some z/\dependsOn z k=true:=by
 unfold dep2 at h;rcases (Bool.or_eq_true _ _).mp h with h | h
 ·exact .inl h
 ·right;obtain⟨e,he,h1⟩:=any_eq_true.1 h;simp only[Bool.and_eq_true] at h1;refine⟨e,Array.mem_def.2 he,h1.1,?_⟩;cases hz:ops[e.on]? with
  | none=>rw[hz] at h1;cases h1.2
  | some z=>rw[hz] at h1;exact⟨z,rfl,h1.2⟩
theorem meets_of {a b:List Nat} {k:Nat} (h1:k∈a) (h2:k∈b):meets a b=true:=by
 cases a with
 | nil=>cases h1
 | cons x xs=>
 cases b with
 | nil=>cases h2
 | cons y ys=>
  unfold meets;exact any_eq_true.2 ⟨k,h1,any_eq_true.2 ⟨k,h2,beq_refl k⟩⟩
theorem meets_out {a b:List Nat} (h:meets a b=true):∃k,k∈a/\k∈b:=by
 cases a with
 | nil=>cases h
 | cons x xs=>
 cases b with
 | nil=>cases h
 | cons y ys=>
  unfold meets at h;obtain⟨p,hp,h2⟩:=any_eq_true.1 h;obtain⟨q,hq,h3⟩:=any_eq_true.1 h2;have:=eq_of_beq_eq_true h3;subst this;exact⟨p,hp,hq⟩
theorem optIn_of {d:Option Tmp} {l:List Nat} {t:Nat} (h1:d=some t) (h2:t∈l):optIn d l=true:=by
 subst h1;exact any_eq_true.2 ⟨t,h2,beq_refl t⟩
end
end Go.Proofs.Ytdjbckknghddpaa.Pm
namespace Go.Proofs.Ytdjbckknghddpaa.Pm
open Go.RowKit
def undone (S:Nat->Bool):Nat->Nat
 | 0=>0|n+1=>undone S n+if S n then 0 else 1
theorem undone_zero {S:Nat->Bool}:∀n,undone S n=0->∀j,j<n->S j=true
 | 0,_,j,hj=>by omega
 | n+1,h,j,hj=>by
  unfold undone at h;by_cases hjn:j=n
  ·subst hjn;cases hs:S j with
   | true=>rfl|false=>rw[hs] at h;simp at h
  ·exact undone_zero n (by omega) j (by omega)
theorem undone_same {S S':Nat->Bool}:∀n,(∀j,j<n->S j=S' j)->undone S n=undone S' n
 | 0,_=>rfl|n+1,h=>by unfold undone;rw[undone_same n fun j hj=>h j (by omega),h n (by omega)]
theorem undone_add {S:Nat->Bool} {i:Nat} (hi:S i=false):∀n,i<n->undone (addS S i) n+1=undone S n
 | 0,h=>by omega
 | n+1,h=>by
  unfold undone;by_cases hn:i=n
  ·subst hn;rw[hi,undone_same (S:=addS S i) (S':=S) i fun j hj=>by simp[addS];omega];simp[addS]
  ·have:=undone_add hi n (by omega);have e:addS S i n=S n:=by simp[addS];omega
   rw[e];omega
section
variable {P:Program} {nt:Nat} {ks0:List Nat} {ops:Array Oper} {c:Ctx} {e0:Env} {h0:Hp} {T:Nat->Tr} {Q:Exit->Act->World->Prop}
structure Part (c:Ctx) (nt:Nat) (ks0:List Nat) (ops:Array Oper) (e0:Env) (h0:Hp) (T:Nat->Tr) (σ:Sg) (S:Nat->Bool) (a:Act) (w:World):Prop where
 st:St c nt σ (envF e0 (dstOf ops) T ops.size S) (hpF h0 T ops.size S) a w
 fresh:∀j k,j<ops.size->S j=false->Makes (T j) k->σ k=none
 past:∀k,k∉ks0->(∀j,j<ops.size->k∉Dl.keys (T j).δ)->σ k=none
theorem any_order (hc:c.Ok) (hns:Region.noSelect ops=true) (hok:∀j o,j<ops.size->ops[j]? = some o->OpOk ops e0 h0 T P nt ks0 j o) (hnd:∀i j t,i<ops.size->j<ops.size->dstOf ops i=some t->dstOf ops j=some t->i=j)
  (hchk:∀j y,j<ops.size->ops[j]? = some y->(∀e∈y.after,Region.binds .any e=true->e.on<j)/\∀k x,k<j->ops[k]? = some x->clash ops x y (entry T k) (entry T j)=true->dep2 ops y k=true)
  (hfin:∀σ a w,St c nt σ (envT ops e0 T ops.size) (hpT h0 T ops.size) a w->(∀k,k∉ks0->(∀j,j<ops.size->k∉Dl.keys (T j).δ)->σ k=none)->Q .normal a w) :
  ∀(fuel:Nat) (listed:Array Bool) (σ:Sg) (a:Act) (w:World),listed.size=ops.size->undone (fun j=>listed.getD j false) ops.size<=fuel->
   (∀j y,ops[j]? = some y->listed.getD j false=true->∀e∈y.after,Region.binds .any e=true->listed.getD e.on false=true)->
   Part c nt ks0 ops e0 h0 T σ (fun j=>listed.getD j false) a w->wpAny P .any ops Q fuel listed a w:=by
 have done:∀(listed:Array Bool) (σ:Sg) (a:Act) (w:World),(∀j,j<ops.size->listed.getD j false=true)->Part c nt ks0 ops e0 h0 T σ (fun j=>listed.getD j false) a w->Q .normal a w:=by
  intro listed σ a w hall hp;refine hfin σ a w ?_ hp.past;have e1:envF e0 (dstOf ops) T ops.size (fun j=>listed.getD j false)=envT ops e0 T ops.size:=by
   funext t;exact envF_agree _ _ _ _ fun j hj _=>hall j hj
  have e2:hpF h0 T ops.size (fun j=>listed.getD j false)=hpT h0 T ops.size:=by
   funext t;exact hpF_agree _ _ _ fun j hj _=>hall j hj
  have:=hp.st;rw[e1,e2] at this;exact this
 have unl:∀(listed:Array Bool) (j:Nat),listed.size=ops.size->j<ops.size->listed.getD j true=listed.getD j false:=by
  intro listed j h1 h2;simp[Array.getD_eq_getD_getElem?,Array.getElem?_eq_getElem (show j<listed.size by omega)]
 have stuck:∀(listed:Array Bool),listed.size=ops.size->Region.ready .any ops listed=[]->∀j,j<ops.size->listed.getD j false=true:=by
  intro listed hls hr j;induction j using Nat.strongRecOn with
  | _ j ih=>
   intro hj;cases hl:listed.getD j false with
   | true=>rfl|false=>
    have:j∈Region.ready .any ops listed:=by
     rw[mem_ready];refine⟨by rw[unl listed j hls hj];exact hl,ops[j],Array.getElem?_eq_getElem hj,fun e he hb=>?_⟩;have hlt:=(hchk j ops[j] hj (Array.getElem?_eq_getElem hj)).1 e he hb;exact ih e.on hlt (by omega)
    rw[hr] at this;cases this
 intro fuel;induction fuel with
 | zero=>
  intro listed σ a w hls hu hd hp;have hall:=undone_zero ops.size (by omega:undone (fun j=>listed.getD j false) ops.size=0);refine⟨?_,done listed σ a w hall hp⟩;refine List.eq_nil_iff_forall_not_mem.2 fun j hj=>?_;obtain⟨h1,o,ho,_⟩:=mem_ready.1 hj;have hjl:=(Array.getElem?_eq_some_iff.1 ho).1;rw[unl listed j hls hjl] at h1;have:=hall j hjl;rw[h1] at this;cases this
 | succ fuel ih=>
  intro listed σ a w hls hu hd hp;refine⟨fun hr=>done listed σ a w (stuck listed hls hr) hp,fun i hi=>?_⟩;obtain⟨h1,o,ho,hall⟩:=mem_ready.1 hi;have hil:=(Array.getElem?_eq_some_iff.1 ho).1;rw[unl listed i hls hil] at h1;obtain⟨S,hS⟩:∃S:Nat->Bool,S=fun j=>listed.getD j false:=⟨_,rfl⟩;have hSi:S i=false:=by rw[hS];exact h1
  have hSi':S=fun j=>listed.getD j false:=hS;rw[<- hS] at hp hu;have hclash:∀j x,j<ops.size->j≠i->ops[j]? = some x->(clash ops x o (entry T j) (entry T i)=true\/clash ops o x (entry T i) (entry T j)=true)->(j<i->S j=true)/\(i<j->S j=false):=by
   intro j x hj hne hx hcl;refine⟨fun hlt=>?_,fun hlt=>?_⟩
   ·have hc1:clash ops x o (entry T j) (entry T i)=true:=by
     rcases hcl with hcl | hcl
     ·exact hcl
     ·unfold clash at hcl ⊢;simp only[Bool.or_eq_true] at hcl ⊢;have sym:∀{u v:List Nat},meets u v=true->meets v u=true:=by
       intro u v huv;obtain⟨p,hp,hq⟩:=meets_out huv;exact meets_of hq hp
      have symd:(match o.dst with | some t=>optIn x.dst [t] | none=>false)=true->(match x.dst with | some t=>optIn o.dst [t] | none=>false)=true:=by
       intro hq;cases hod:o.dst with
       | none=>rw[hod] at hq;cases hq
       | some t=>
        rw[hod] at hq;cases hxd:x.dst with
        | none=>rw[hxd] at hq;cases hq
        | some t'=>
         rw[hxd] at hq;simp only[optIn,List.any_cons,List.any_nil,Bool.or_false] at hq ⊢;rw[eq_of_beq_eq_true hq];exact beq_refl _
      rcases hcl with ((((hcl | hcl) | hcl) | hcl) | hcl) | hcl
      ·exact .inl (.inl (.inl (.inl (.inr hcl))))
      ·exact .inl (.inl (.inl (.inl (.inl hcl))))
      ·exact .inl (.inl (.inl (.inr (symd hcl))))
      ·exact .inl (.inl (.inr (sym hcl)))
      ·exact .inr (sym hcl)
      ·exact .inl (.inr (sym hcl))
    rcases dep2_out ((hchk i o hil ho).2 j x hlt hx hc1) with hdp | ⟨e,he,hb,z,hz,hdp⟩
    ·obtain⟨e,he,hb,rfl⟩:=dependsOn_out hdp;rw[hS];exact hall e he hb
    ·obtain⟨e',he',hb',rfl⟩:=dependsOn_out hdp;rw[hS];exact hd _ z hz (hall e he hb) e' he' hb'
   ·have hc1:clash ops o x (entry T i) (entry T j)=true:=by
     rcases hcl with hcl | hcl
     ·unfold clash at hcl ⊢;simp only[Bool.or_eq_true] at hcl ⊢;have sym:∀{u v:List Nat},meets u v=true->meets v u=true:=by
       intro u v huv;obtain⟨p,hp,hq⟩:=meets_out huv;exact meets_of hq hp
      have symd:(match x.dst with | some t=>optIn o.dst [t] | none=>false)=true->(match o.dst with | some t=>optIn x.dst [t] | none=>false)=true:=by
       intro hq;cases hod:x.dst with
       | none=>rw[hod] at hq;cases hq
       | some t=>
        rw[hod] at hq;cases hxd:o.dst with
        | none=>rw[hxd] at hq;cases hq
        | some t'=>
         rw[hxd] at hq;simp only[optIn,List.any_cons,List.any_nil,Bool.or_false] at hq ⊢;rw[eq_of_beq_eq_true hq];exact beq_refl _
      rcases hcl with ((((hcl | hcl) | hcl) | hcl) | hcl) | hcl
      ·exact .inl (.inl (.inl (.inl (.inr hcl))))
      ·exact .inl (.inl (.inl (.inl (.inl hcl))))
      ·exact .inl (.inl (.inl (.inr (symd hcl))))
      ·exact .inl (.inl (.inr (sym hcl)))
      ·exact .inr (sym hcl)
      ·exact .inl (.inr (sym hcl))
     ·exact hcl
    cases hsj:S j with
    | false=>rfl|true=>
     rcases dep2_out ((hchk j x hj hx).2 i o hlt ho hc1) with hdp | ⟨e,he,hb,z,hz,hdp⟩
     ·obtain⟨e,he,hb,heq⟩:=dependsOn_out hdp;have:=hd j x hx (by rw[hS] at hsj;exact hsj) e he hb;rw[heq,h1] at this;cases this
     ·obtain⟨e',he',hb',heq⟩:=dependsOn_out hdp;have:=hd _ z hz (hd j x hx (by rw[hS] at hsj;exact hsj) e he hb) e' he' hb';rw[heq,h1] at this;cases this
  obtain⟨k1,k2,k3,k4⟩:=hok i o hil ho;have hdst:dstOf ops i=o.dst:=by unfold dstOf;rw[ho];rfl
  have henv:∀t,t∈o.looksAt ops->envF e0 (dstOf ops) T ops.size S t=envT ops e0 T i t:=by
   intro t ht;refine Eq.trans ?_ (envF_lt e0 (dstOf ops) T ops.size (Nat.le_of_lt hil) t);refine envF_agree _ _ _ _ fun j hj hdj=>?_;by_cases hji:j=i
   ·subst hji;rw[hSi];simp
   ·have hx:ops[j]? = some ops[j]:=Array.getElem?_eq_getElem hj;have hdx:ops[j].dst=some t:=by unfold dstOf at hdj;rw[hx] at hdj;exact hdj
    have hcl:clash ops ops[j] o (entry T j) (entry T i)=true:=by
     unfold clash;rw[optIn_of hdx ht];simp
    obtain⟨g1,g2⟩:=hclash j ops[j] hj hji hx (.inl hcl);rcases lt_or_gt_of_ne hji with hlt | hlt
    ·rw[g1 hlt];simp[hlt]
    ·rw[g2 hlt];simp;omega
  have hent:∀j x,ops[j]? = some x->(T j).w=true->entry T j=(Dl.keys (T j).δ,(T j).rf.map Prod.fst):=by
   intro j x hx hw;unfold entry;rw[hw];rfl
  have hkeysw:∀j k,j<ops.size->k∈Dl.keys (T j).δ->(T j).w=true:=by
   intro j k hj hk;cases hw:(T j).w with
   | true=>rfl|false=>
    have:=((hok j ops[j] hj (Array.getElem?_eq_getElem hj)).2.2.1 hw).2.1;rw[this] at hk;simp[Dl.keys] at hk
  have hlook:∀x∈o.op.operands,∀t,x=.tmp t->t∈o.looksAt ops:=by
   intro x hx t ht;subst ht;exact mem_append_left _ (List.mem_filterMap.2 ⟨.tmp t,by simpa using hx,rfl⟩)
  have hev:∀x∈o.op.operands,ev (envF e0 (dstOf ops) T ops.size S) x=ev (envT ops e0 T i) x:=by
   intro x hx;cases x with
   | tmp t=>exact henv t (hlook _ hx t rfl)|const v=>rfl|global g=>rfl|func f=>rfl
  have hguard:GuardIs ops o (envF e0 (dstOf ops) T ops.size S) (T i).w:=by
   unfold GuardIs at k2 ⊢;cases hg:o.guard with
   | none=>rw[hg] at k2;exact k2|some p=>
    obtain⟨j,want⟩:=p;rw[hg] at k2;obtain⟨oj,t,q1,q2,q3⟩:=k2;refine⟨oj,t,q1,q2,?_⟩;rw[henv t (mem_append_right _ (by rw[hg];simp[q1,q2]))];exact q3
  have hwant:=wanted_of hguard hp.st.env;have hSadd:(fun j=>(listed.setIfInBounds i true).getD j false)=addS S i:=by
   funext j
   rw[hS];by_cases hji:j=i
   ·subst hji;simp[addS,Array.getD_eq_getD_getElem?,hls,hil]
   ·simp[addS,hji,Array.getD_eq_getD_getElem?,Array.getElem?_setIfInBounds_ne (Ne.symm hji)]
  have hhp:(T i).w=true->∀p∈(T i).rf,hpF h0 T ops.size S p.1=some p.2:=by
   intro hw p hpm;obtain⟨g1,g2,g3⟩:=k4 hw;rw[<- g1 p hpm];show hpF h0 T ops.size S p.1=hpF h0 T i (fun _=>true) p.1;refine Eq.trans ?_ (hpF_lt h0 T ops.size (Nat.le_of_lt hil) p.1);refine hpF_agree _ _ _ fun j hj hkj=>?_;by_cases hji:j=i
   ·subst hji;rw[hSi];simp
   ·have hx:ops[j]? = some ops[j]:=Array.getElem?_eq_getElem hj;have hcl:clash ops ops[j] o (entry T j) (entry T i)=true:=by
     unfold clash;rw[hent i o ho hw,hent j _ hx (hkeysw j _ hj hkj),meets_of (b:=(T i).rf.map Prod.fst) hkj (List.mem_map_of_mem hpm)];simp
    obtain⟨q1,q2⟩:=hclash j ops[j] hj hji hx (.inl hcl);rcases lt_or_gt_of_ne hji with hlt | hlt
    ·rw[q1 hlt];simp[hlt]
    ·rw[q2 hlt];simp;omega
  have next:∀(σ':Sg) (u:Value) (w':World),Evo σ σ' (fz c σ (hpF h0 T ops.size S) w) (fz c σ' (Dl.app (hpF h0 T ops.size S) (T i).δ) w') w w'->SW c σ' (Dl.app (hpF h0 T ops.size S) (T i).δ) w'->
    PRep σ' (fz c σ' (Dl.app (hpF h0 T ops.size S) (T i).δ) w') w' (T i).v u->(∀k,k∉Dl.keys (T i).δ->σ k=none->σ' k=none)->wpAny P .any ops Q fuel (listed.setIfInBounds i true) (a.put o.dst u) w':=by
   intro σ' u w' ev hsw hpr hfr;refine ih (listed.setIfInBounds i true) σ' _ w' (by simpa using hls) ?_ ?_ ?_
   ·rw[hSadd];have:=undone_add hSi ops.size hil;omega
   ·intro j y hy hl e he hb;have hl':addS S i j=true:=by rw[<- hSadd];exact hl
    have goal:addS S i e.on=true:=by
     by_cases hji:j=i
     ·subst hji;rw[ho] at hy;cases hy;unfold addS;split
      ·rfl
      ·rw[hS];exact hall e he hb
     ·have hsj:S j=true:=by simpa [addS,hji] using hl'
      have:=hd j y hy (by rw[hS] at hsj;exact hsj) e he hb;unfold addS;split
      ·rfl
      ·rw[hS];exact this
    rw[<- hSadd] at goal;exact goal
   ·rw[hSadd];have e1:envF e0 (dstOf ops) T ops.size (addS S i)=updO (envF e0 (dstOf ops) T ops.size S) o.dst (T i).v:=by
     rw[envF_ins e0 (dstOf ops) T hSi ops.size hil,hdst];intro j hij hj hsj t htj hti;have hx:ops[j]? = some ops[j]:=Array.getElem?_eq_getElem hj;have hdx:ops[j].dst=some t:=by unfold dstOf at htj;rw[hx] at htj;exact htj
     rw[hdst] at hti;have hcl:clash ops o ops[j] (entry T i) (entry T j)=true:=by
      unfold clash;rw[hti,hdx];simp[optIn]
     have:=(hclash j ops[j] hj (by omega) hx (.inr hcl)).2 hij;rw[this] at hsj;cases hsj
    have e2:hpF h0 T ops.size (addS S i)=Dl.app (hpF h0 T ops.size S) (T i).δ:=by
     refine hpF_ins h0 T hSi ops.size hil fun j hij hj hsj k hki hkj=>?_;have hx:ops[j]? = some ops[j]:=Array.getElem?_eq_getElem hj;have hcl:clash ops o ops[j] (entry T i) (entry T j)=true:=by
      unfold clash;rw[hent i o ho (hkeysw i k hil hki),hent j _ hx (hkeysw j k hj hkj),meets_of hki hkj];simp
     have:=(hclash j ops[j] hj (by omega) hx (.inr hcl)).2 hij;rw[this] at hsj;cases hsj
    refine⟨?_,fun j k hj hsj hm=>?_,fun k hk hkj=>hfr k (hkj i hil) (hp.past k hk hkj)⟩
    ·rw[e1,e2];exact st_put hp.st ev hsw hpr k1
    ·have hji:j≠i:=by rintro rfl;simp[addS] at hsj
     have hσk:=hp.fresh j k hj (by simpa [addS,hji] using hsj) hm;refine hfr _ (fun hmem=>?_) hσk;have hw:=hkeysw i k hil hmem;have hwj:=hkeysw j k hj hm.1;obtain⟨_,_,g3⟩:=k4 hw;obtain⟨oj,hoj⟩:∃oj,ops[j]? = some oj:=⟨ops[j],Array.getElem?_eq_getElem hj⟩;obtain⟨_,_,g3'⟩:=(hok j oj hj hoj).2.2.2 hwj;have hno:∀p∈(T i).rf,p.1≠k:=by
      rintro⟨q,b⟩ hp' rfl;have h8:=hhp hw (q,b) hp';have h9:=hp_none hp.st.toSW hσk;simp only at h8;rw[h9] at h8;cases h8
     rcases lt_or_gt_of_ne hji with hlt | hlt
     ·exact (g3 k ⟨hmem,hno⟩).2 j hlt hm.1
     ·exact (g3' k hm).2 i hlt hmem
  unfold wpOp;rw[ho];simp only[hwant];cases hw:(T i).w with
  | true=>
   rw[if_pos rfl];obtain⟨g1,g2,g3⟩:=k4 hw;have hhp:=hhp hw;refine .inl (g2 c σ _ a w hc hp.st.toSW (fun x hx=>?_) hhp (fun k hk hp'=>hp.fresh i k hil hSi ⟨hk,hp'⟩) _ _ fun u σ' w' ev hsw hpr hfr=>next σ' u w' ev hsw hpr hfr);rw[<- hev x hx];exact rep_ev hp.st x
  | false=>
   rw[if_neg (by simp)];obtain⟨g1,g2,g3⟩:=k3 hw;have:=next σ undef w
   rw[g1,g2] at this;exact this Evo.refl hp.st.toSW rep_undef (fun _ _ h=>h)
end
theorem dstNodup_out {ops:Array Oper} (h:dstNodup ops.toList=true):∀i j t,i<ops.size->j<ops.size->dstOf ops i=some t->dstOf ops j=some t->i=j:=by
 have key:∀(l:List Oper),dstNodup l=true->∀(i j:Nat) (t:Tmp) (x y:Oper),i<j->l[i]? = some x->l[j]? = some y->x.dst=some t->y.dst=some t->False:=by
  intro l;induction l with
  | nil=>intro _ i j t x y _ h1;simp at h1
  | cons z l ih=>
   intro hd i j t x y hij h1 h2 h3 h4;unfold dstNodup at hd;simp only[Bool.and_eq_true] at hd;cases j with
   | zero=>omega|succ j=>
    simp only[List.getElem?_cons_succ] at h2;cases i with
    | zero=>
     simp only[List.getElem?_cons_zero,Option.some.injEq] at h1;subst h1;have:=all_eq_true.1 hd.1 y (List.mem_of_getElem? h2);rw[h3,h4] at this;simp[optIn] at this
    | succ i=>
     simp only[List.getElem?_cons_succ] at h1;exact ih hd.2 i j t x y (by omega) h1 h2 h3 h4
 intro i j t hi hj h1 h2;have hx:ops.toList[i]? = some ops[i]:=by simp[hi]
 have hy:ops.toList[j]? = some ops[j]:=by simp[hj]
 unfold dstOf at h1 h2;rw[Array.getElem?_eq_getElem hi] at h1;rw[Array.getElem?_eq_getElem hj] at h2;rcases lt_trichotomy i j with hlt | heq | hlt
 ·exact (key _ h i j t _ _ hlt hx hy h1 h2).elim
 ·exact heq
 ·exact (key _ h j i t _ _ hlt hy hx h2 h1).elim
theorem region_mid {P:Program} {nt id:Nat} {ops:Array Oper} {draw:Bool} {e:Env} {h:Hp} {ks:List Nat} {X:XT} {K:Env->Hp->List Nat->Prop} {c:Ctx} (hc:c.Ok) {Q:Exit->Act->World->Prop} {σ:Sg} {a:Act} {w:World}
  (hv:regionP P nt ops draw e h ks X K) (hpan:∀x e h ks σ a w,X x e h ks->St c nt σ e h a w->(∀k,k∉ks->σ k=none)->Q (.panic [{ v:=x,recovered:=false }]) a w) (hs:St c nt σ e h a w) (hf:∀k,k∉ks->σ k=none)
  (hfin:∀e h ks σ a w,K e h ks->St c nt σ e h a w->(∀k,k∉ks->σ k=none)->Q .normal a w):(draw=false/\wpList P ops Q ops.toList a w)\/(draw=true/\wpAny P .any ops Q ops.size (Array.replicate ops.size false) a w.drew):=by
 unfold regionP at hv;split at hv
 ·refine .inl ⟨rfl,?_⟩;exact (plain_order hc hpan (fun e h ks _ σ a w hk hs hf=>hfin e h ks σ a w hk hs hf) ops.toList 0 e h [] ks [] σ a w hv (fun t b h=>by cases h) hs hf)
 ·obtain⟨T,ks',hT,hks,hk⟩:=record (ops:=ops) (e0:=e) (h0:=h) (P:=P) (nt:=nt) (ks0:=ks) ops.toList 0 [] ks (fun _=>⟨.any,[],[],false⟩) (by simp) (by intro j o hj;omega) (fun t b h=>by cases h) (fun k hk=>⟨hk,by intro j hj;omega⟩) (fun _ h=>h) (fun k j hj=>by omega) hv;simp only[zero_add,Array.length_toList] at hT hk hks;split at hk
  ·rename_i hchk;unfold chk at hchk;simp only[Bool.and_eq_true] at hchk;have hall:=chkAll_out (T:=T) ops.size (Nat.le_refl _) (by
    rw[take_of_length_le (by simp)];exact hchk.1)
   refine .inr ⟨rfl,?_⟩;refine (any_order hc (nosel_of hchk.2.1) hT (dstNodup_out hchk.2.2) hall (fun σ a w hs hf=>hfin _ _ ks' σ a w hk hs fun k hk'=>hf k (hks k hk').1 (hks k hk').2) ops.size _ σ a w.drew (by simp) ?_ ?_ ?_)
   ·have:∀n,undone (fun j=>(Array.replicate ops.size false).getD j false) n<=n:=by
     intro n;induction n with
     | zero=>exact Nat.le_refl _|succ n ih=>unfold undone;split<;>omega
    exact this _
   ·intro j y hy hl;simp[Array.getD_eq_getD_getElem?,Array.getElem?_replicate] at hl;split at hl<;>simp at hl
   ·have hsz:(fun j=>(Array.replicate ops.size false).getD j false)=fun _=>false:=by
     funext j
     simp only[Array.getD_eq_getD_getElem?,Array.getElem?_replicate];split<;>rfl
    rw[hsz];have e1:∀n,envF e (dstOf ops) T n (fun _=>false)=e:=by
     intro n;induction n with
     | zero=>rfl|succ n ih=>unfold envF;simp[ih]
    have e2:∀n,hpF h T n (fun _=>false)=h:=by
     intro n;induction n with
     | zero=>rfl|succ n ih=>unfold hpF;simp[ih]
    refine⟨?_,fun j t hj _ hdj=>?_,fun k hk _=>hf k hk⟩
    ·rw[e1,e2];have hb:Below w.heap.size w w.drew:=(Below.refl _ _).drew;have ev:=evo_below hs.toSW hb;exact⟨sw_below hs.toSW hb,fun t=>PRep.evo ev _ _ (hs.env t),hs.defers,hs.nt⟩
    ·obtain⟨oj,hoj⟩:∃oj,ops[j]? = some oj:=⟨ops[j],Array.getElem?_eq_getElem hj⟩;obtain⟨_,_,q3,q4⟩:=hT j oj hj hoj;cases hw:(T j).w with
     | true=>exact hf t ((q4 hw).2.2 t hdj).1|false=>have:=hdj.1;rw[(q3 hw).2.1] at this;simp[Dl.keys] at this
  ·exact hk.elim
theorem region_out {P:Program} {nt id:Nat} {ops:Array Oper} {draw:Bool} {e:Env} {h:Hp} {ks:List Nat} {X:XT} {K:Env->Hp->List Nat->Prop} {c:Ctx} (hc:c.Ok) (hm:P.follows .mixedOrders=true) {Q:Exit->Act->World->Prop} {σ:Sg} {a:Act} {w:World}
  (hv:regionP P nt ops draw e h ks X K) (hpan:∀x e h ks σ a w,X x e h ks->St c nt σ e h a w->(∀k,k∉ks->σ k=none)->Q (.panic [{ v:=x,recovered:=false }]) a w) (hs:St c nt σ e h a w) (hf:∀k,k∉ks->σ k=none)
  (hfin:∀e h ks σ a w,K e h ks->St c nt σ e h a w->(∀k,k∉ks->σ k=none)->Q .normal a w):(Code.region id ops draw).wp P Q a w:=by
 rcases region_mid (id:=id) hc hv hpan hs hf hfin with ⟨rfl,q⟩ | ⟨rfl,q⟩
 ·exact wp_region_list q
 ·exact wp_region_any hm q
end Go.Proofs.Ytdjbckknghddpaa.Pm
end
