/- a text's pieces, collected -/
import Derived.Test.YtegpnpdnanfhbaaGreatDoorYLikeIter
import Derived.Test.YtegpnpdnanfhbaaGreatDoorYSlice
import Derived.Maps.AppendAt
namespace Go.Proofs.YtegpnpdnanfhbaaGreatDoor.LikeP
open Go.RowKit Go.Lib K
attribute [local go_sem] Oper.semAt_some
theorem boxed_still {B S g:Nat} {t:TypeId} {v:Value} {A A':World} (h:Boxed A g t v) (hs:Still B S A A') (hg:g≠S):Boxed A' g t v:=hs.same g _ h hg (.inr rfl)
theorem tabs_still {B S:Nat} {A A':World} (h:Tabs A) (hs:Still B S A A') (hg:1≠S∧2≠S):Tabs A':=by
 have key:∀{a:Addr} {v:Value},a.block≠S→A.cell? a=some v→A'.cell? a=some v:=by
  intro a v ha hc
  obtain⟨o,ho,hk⟩:=cells_of_cell hc
  exact (World.cell?_of_block ((hs.same _ _ ho ha (.inr hk)).trans ho.symm)).trans hc
 exact⟨fun c hc=>key (a:=⟨1,c,none⟩) hg.1 (h.1 c hc),fun i hi=>⟨key (a:=⟨2,2*i,none⟩) hg.2 (h.2 i hi).1,key (a:=⟨2,2*i+1,none⟩) hg.2 (h.2 i hi).2⟩⟩
theorem tabs_lt {A:World} (h:Tabs A):1<A.heap.size∧2<A.heap.size:=by
 obtain⟨o,ho,_⟩:=cells_of_cell (h.1 0 (by decide))
 obtain⟨o',ho',_⟩:=cells_of_cell (h.2 0 (by decide)).1
 exact⟨(Array.getElem?_eq_some_iff.1 ho).1,(Array.getElem?_eq_some_iff.1 ho').1⟩
theorem below_still {B S n0:Nat} {w0 A A':World} (h:Below n0 w0 A) (hs:Still B S A A') (hB:n0≤B) (hS:n0≤S) (h0:n0≤w0.heap.size):Below n0 w0 A':=K.Below.still h hs hB hS h0
theorem tabs_below {n0:Nat} {A A':World} (h:Tabs A) (hb:Below n0 A A') (hg:1<n0∧2<n0):Tabs A':=
 ⟨fun c hc=>(hb.cell (p:=⟨1,c,none⟩) hg.1).trans (h.1 c hc),fun i hi=>⟨(hb.cell (p:=⟨2,2*i,none⟩) hg.2).trans (h.2 i hi).1,(hb.cell (p:=⟨2,2*i+1,none⟩) hg.2).trans (h.2 i hi).2⟩⟩
theorem infoStr:(Tryz.prog.info? 9).map (fun i=>(i.zero,i.size,i.bytes))=some (some (.string ByteArray.empty),1,16):=by kernel_rfl
set_option maxRecDepth 100000 in
set_option maxHeartbeats 2000000 in
theorem appendseq_any (s:ByteArray) (S:Nat) (w:World) (hb:BoxS S s w) (hT:Tabs w) (hg:1<S∧2<S) (hz:s.size*16≤140737488355328) :
  Calls Tryz.prog 146 #[.slice none 0 0,.func (.func 147) #[] #[.pointer (some ⟨S,0,none⟩)]] w fun e w'=>
   ∃v,e=.returned v∧w'.ownsRow w.heap.size 9 1 v (pcs s).length ((pcs s).map Value.string)∧Below S w w':=by
 have hS:S<w.heap.size:=(Array.getElem?_eq_some_iff.1 hb).1
 obtain⟨i0,hi,hz0,hz1,hz2⟩:=info_parts infoStr
 refine (callsIn_wide (n:=5)).1 ?_
 refine callsIn_of_wp_marks Tryz.func146 rfl trivial ?_ rfl
 simp only[Tryz.ntmps146,List.size_toArray,List.length_cons,List.length_nil,Nat.reduceAdd,Nat.reduceSub,Array.replicate_succ,Array.replicate_zero,List.push_toArray,List.append_toArray,List.nil_append,List.cons_append]
 gi_wp2
 obtain⟨W0,hW0⟩:∃W0,w.alloc (.cells #[.slice none 0 0] 59)=W0:=⟨_,rfl⟩
 have hsz0:W0.heap.size=w.heap.size+1:=by rw[← hW0];simp
 have bO:Boxed W0 w.heap.size 59 (.slice none 0 0):=by rw[← hW0];exact Boxed.new w _ _
 have hB0:Below w.heap.size w W0:=by rw[← hW0];exact (Below.refl _ w).alloc (Nat.le_refl _) _
 have hb0:W0.heap[S]? = some (.cells #[.string s] 9 (0,0)):=(hB0.block S hS).trans hb
 have hT0:Tabs W0:=hT.later hB0
 have hseq:=iter_any 4 S s
 rw[← hb0] at hseq
 rw[hW0]
 have hlen:=pcs_length s
 refine range_st (w:=W0) (xs:=pcs s) (S:=S) (T:=Tabs) rfl (by decide) (gf:=147) (lb:=#[.pointer (some ⟨S,0,none⟩)]) rfl trivial (enters_of Tryz.func147 (by kernel_rfl) rfl)
  (by omega) hseq (fun _=>rfl)
  (fun pre W=>(∃v,Boxed W w.heap.size 59 v∧W.ownsRow w.heap.size 9 1 v pre.length (pre.map Value.string))∧Below S w W∧Tabs W)
  (fun _ _ _=>False) (fun _ _ h=>h.2.2)
  (fun pre A A' h hs=>?hI) (fun _ _ _ _ h _=>h) ⟨⟨_,bO,World.ownsRow_nil _ _ _ _⟩,hB0.mono (by omega),hT0⟩
  (fun x=>{ tmps:=#[.slice none 0 0,.func (.func 147) #[] #[.pointer (some ⟨S,0,none⟩)],.pointer (some ⟨w.heap.size,0,none⟩),undef,.slice none 0 0,.string x,.func (.func 147) #[] #[.pointer (some ⟨S,0,none⟩)],.string x,undef,undef,undef,undef,undef],defers:=[] }) ?assign ?body ?done ?stop
 case hI=>
  obtain⟨⟨v,h1,h2⟩,h3,h4⟩:=h
  exact⟨⟨v,boxed_still h1 hs (by omega),own_still h2 hs hS⟩,below_still h3 hs (by omega) (Nat.le_refl _) (by omega),tabs_still h4 hs ⟨by omega,by omega⟩⟩
 case assign=>
  intro l x W K hK
  gi_wp2
  exact hK
 case body=>
  rintro l pre x W ⟨⟨v,hv,hrow⟩,hB,hTW⟩ hx hsz
  have hpl:pre.length<(pcs s).length:=(List.getElem?_eq_some_iff.1 hx).1
  have hc:=hv.cell
  clear hx
  gi_wp2_with (gi_at_builtin;refine wpListIn_append_own _ rfl _ _ 59 rfl w.heap.size 9 i0 (.string ByteArray.empty) 1 16 Tryz.underlying59 hi hz0 hz1 hz2 rfl (by decide) _ _ _ rfl (hrow.alloc _) ⟨W.heap.size,0,none⟩ 1 1 [.string x] rfl rfl (cell_one_new _ _ _) (by simp[Value.oneCell']) (by unfold maxLen;omega) (by omega) (by simp;omega) ?_;intro v' w1 hown' hgrow _;obtain⟨g',cap',rfl⟩:=ownsRow_succ hown';obtain⟨hv1,hv2,hr2,hk2,hb2⟩:=hv.appended (by decide) hrow (by omega) (Nat.le_refl _) hown' hgrow;have hc1:=hv1.cell;have hf1:=hv1.frozen)
  have hSW:S<W.heap.size:=by omega
  refine⟨Spares.of_others hk2 (hb2.block S hS),⟨_,hv2,?_⟩,hB.trans (hb2.mono (by omega)),?_⟩
  ·rw[List.length_append,List.map_append];exact hr2
  ·exact tabs_below hTW hb2 ⟨by omega,by omega⟩
 case done=>
  rintro D W hD ⟨⟨v,hv,hrow⟩,hB,hTW⟩ hK
  have hc:=hv.cell
  gi_wp2
  refine⟨by simp,.inl ⟨_,_,rfl,run_takeDeferred hK,?_⟩⟩
  refine⟨_,results_tmp rfl _ _ _,v,rfl,ownsRow_putObj hrow _ hK rfl,hB.trans ?_⟩
  exact belowK_b (w:=W0) (by omega) W D _ _ (by omega) hK rfl rfl
 case stop=>
  rintro D c pre W _ _ h _
  exact h.elim
end Go.Proofs.YtegpnpdnanfhbaaGreatDoor.LikeP
