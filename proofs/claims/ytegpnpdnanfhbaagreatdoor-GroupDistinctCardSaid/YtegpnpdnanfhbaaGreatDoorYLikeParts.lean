/- the parts of a pattern -/
import Derived.Test.YtegpnpdnanfhbaaGreatDoorYLikeCollect
namespace Go.Proofs.YtegpnpdnanfhbaaGreatDoor.LikeP
open Go.RowKit Go.Lib K
attribute [local go_sem] Oper.semAt_some
theorem pieces_any (s:ByteArray) (w:World) :
  Calls Tryz.prog 142 #[.string s] w fun e w'=>e=.returned (.func (.func 147) #[] #[.pointer (some ⟨w.heap.size,0,none⟩)])∧w'=w.alloc (.cells #[.string s] 9):=by
 go_enter Tryz.func142,Tryz.ntmps142
 go_wp2
 go_ret
 exact⟨rfl,rfl⟩
theorem collect_any (s:ByteArray) (S:Nat) (w:World) (hb:BoxS S s w) (hT:Tabs w) (hg:1<S∧2<S) (hz:s.size*16≤140737488355328) :
  Calls Tryz.prog 141 #[.func (.func 147) #[] #[.pointer (some ⟨S,0,none⟩)]] w fun e w'=>
   ∃v,e=.returned v∧w'.ownsRow w.heap.size 9 1 v (pcs s).length ((pcs s).map Value.string)∧Below S w w':=by
 go_enter Tryz.func141,Tryz.ntmps141
 go_wp2_with fail
 refine (appendseq_any s S w hb hT hg hz).mono ?_
 rintro e w' ⟨v,rfl,h1,h2⟩
 go_wp2
 go_ret
 exact⟨v,rfl,h1,h2⟩
theorem split_any (s:ByteArray) (w:World) (hT:Tabs w) (hz:s.size*16≤140737488355328) :
  Calls Tryz.prog 141 #[.func (.func 147) #[] #[.pointer (some ⟨w.heap.size,0,none⟩)]] (w.alloc (.cells #[.string s] 9)) fun e w'=>
   ∃v,e=.returned v∧w'.ownsRow w.heap.size 9 1 v (pcs s).length ((pcs s).map Value.string)∧Below w.heap.size w w':=by
 have h0:=alloc_below w (.cells #[.string s] 9)
 have hlt:=tabs_lt hT
 refine (collect_any s w.heap.size _ (heap_alloc_new w _) (hT.later h0) hlt hz).mono ?_
 rintro e w' ⟨v,rfl,h1,h2⟩
 exact⟨v,rfl,own_mono h1 (by simp),h0.trans h2⟩
def partVal (p:Part):List Value:=[.int .i32 p.1,.string p.2]
def partCells (l:List Part):List Value:=l.flatMap partVal
theorem elPart:El Tryz.prog 170 182 (.agg #[.int .i32 0,.string ByteArray.empty]) 2 24:=El.mk Tryz.underlying170 (by kernel_rfl) rfl (by decide) (by decide)
theorem infoPart:(Tryz.prog.info? 182).map (fun i=>(i.zero,i.size,i.bytes))=some (some (.agg #[.int .i32 0,.string ByteArray.empty]),2,24):=by kernel_rfl
def partOf (e:Bool) (x:ByteArray):List Part:=partsE e [x]
theorem partsE_snoc (pre:List ByteArray) (x:ByteArray):partsE false (pre++[x])=partsE false pre++partOf (openE false pre) x:=partsE_append _ _ _
theorem openE_snoc (pre:List ByteArray) (x:ByteArray):openE false (pre++[x])=(!openE false pre&&decide (x=backslash)):=openE_append _ _ _
def PInv (n0:Nat) (w:World) (ps:List Part) (b:Bool) (W:World):Prop:=
 (∃v,Boxed W n0 170 v∧W.ownsRow (n0+3) 182 2 v ps.length (partCells ps))∧Boxed W (n0+1) 4 (.bool b)∧Below n0 w W∧Tabs W
theorem pinv_push {w W W':World} {n0 B0:Nat} {ps:List Part} {b:Bool} {v':Value} (p:Part) (h:PInv n0 w ps b W) (hlt:1<n0∧2<n0) (hS:n0+2<W.heap.size)
  (hv2:Boxed W' n0 170 v') (hr2:W'.ownsRow (n0+3) 182 2 v' (ps.length+1) (partCells ps++partVal p)) (hk2:KeepsOthers W W')
  (hs2:∀k,k<W.heap.size→k≠n0→k<n0+3→W'.heap[k]? = W.heap[k]?) (hb2:Below n0 W W'):Spares B0 (n0+2) W W'∧PInv n0 w (ps++[p]) b W':=by
 obtain⟨_,he,hB,hT⟩:=h
 refine⟨Spares.of_others hk2 (hs2 _ hS (by omega) (by omega)),⟨v',hv2,?_⟩,(hs2 _ he.lt (by omega) (by omega)).trans he,hB.trans hb2,tabs_below hT hb2 hlt⟩
 rw[List.length_append,show partCells (ps++[p])=partCells ps++partVal p by simp[partCells]]
 exact hr2
theorem pinv_set {w W:World} {n0 B0:Nat} {ps:List Part} {b:Bool} (b':Bool) (h:PInv n0 w ps b W) (hlt:1<n0∧2<n0) :
  Spares B0 (n0+2) W (W.setCell ⟨n0+1,0,none⟩ (.bool b'))∧PInv n0 w ps b' (W.setCell ⟨n0+1,0,none⟩ (.bool b')):=by
 obtain⟨⟨v,hv,hr⟩,he,hB,hT⟩:=h
 obtain⟨h1,h2,h3,h4⟩:=boxset (.bool b') he
 have h5:Below n0 W (W.setCell ⟨n0+1,0,none⟩ (.bool b')):=h4.mono (by omega)
 exact⟨Spares.of_others h2 (h3 _ (by omega)),⟨v,(h3 n0 (by omega)).trans hv,own_other hr fun k hk=>h3 k (by omega)⟩,h1,hB.trans h5,tabs_below hT h5 hlt⟩
theorem part_esc (x:ByteArray):partOf true x=[(0,x)]:=rfl
theorem part_bs:partOf false backslash=[]:=rfl
theorem part_any {x:ByteArray} (h:x=percent):partOf false x=[(37,⟨#[]⟩)]:=by subst h;rfl
theorem part_one {x:ByteArray} (h:x=underscore):partOf false x=[(95,⟨#[]⟩)]:=by subst h;rfl
theorem part_self {x:ByteArray} (h1:x≠backslash) (h2:x≠percent) (h3:x≠underscore):partOf false x=[(0,x)]:=by
 unfold partOf;simp only[partsE];rw[if_neg h1,if_neg h2,if_neg h3]
set_option maxRecDepth 100000 in
set_option maxHeartbeats 2000000 in
theorem parts_any (s:ByteArray) (w:World) (hT:Tabs w) (hz:s.size≤32) :
  Calls Tryz.prog 144 #[.string s] w fun e w'=>
   ∃v,e=.returned (.tuple #[v,.bool (!openE false (pcs s))])∧w'.ownsRow w.heap.size 182 2 v (partsE false (pcs s)).length (partCells (partsE false (pcs s)))∧Below w.heap.size w w':=by
 obtain⟨i0,hi,hz0,hz1,hz2⟩:=info_parts infoPart
 refine (callsIn_wide (n:=5)).1 ?_
 refine callsIn_of_wp_marks Tryz.func144 rfl trivial ?_ rfl
 simp only[Tryz.ntmps144,List.size_toArray,List.length_cons,List.length_nil,Nat.reduceAdd,Nat.reduceSub,Array.replicate_succ,Array.replicate_zero,List.push_toArray,List.append_toArray,List.nil_append,List.cons_append]
 gi_wp2_with fail
 refine⟨trivial,?_⟩
 refine (callsIn_wide.2 (pieces_any s _)).mono ?_
 rintro e w' ⟨rfl,rfl⟩
 gi_wp2
 obtain⟨n0,hn0⟩:∃n0,w.heap.size=n0:=⟨_,rfl⟩
 have ea:w.heap.size+1+1=n0+2:=by omega
 simp only[ea]
 obtain⟨W0,hW0⟩:∃W0,((w.alloc (.cells #[.slice none 0 0] 170)).alloc (.cells #[.bool false] 4)).alloc (.cells #[.string s] 9)=W0:=⟨_,rfl⟩
 have b1:=Boxed.new w 170 (.slice none 0 0)
 have b2:=Boxed.new (w.alloc (.cells #[.slice none 0 0] 170)) 4 (.bool false)
 have b3:=Boxed.new ((w.alloc (.cells #[.slice none 0 0] 170)).alloc (.cells #[.bool false] 4)) 9 (.string s)
 have b1:=(b1.alloc (.cells #[.bool false] 4)).alloc (.cells #[.string s] 9)
 have b2:=b2.alloc (.cells #[.string s] 9)
 have hB0:Below w.heap.size w (((w.alloc (.cells #[.slice none 0 0] 170)).alloc (.cells #[.bool false] 4)).alloc (.cells #[.string s] 9)):=((Below.refl _ w).alloc (Nat.le_refl _) _).alloc (by simp) _ |>.alloc (by simp;omega) _
 simp only[World.size_alloc,ea] at b2 b3
 rw[hW0] at b1 b2 b3 hB0 ⊢
 rw[hn0] at b1 b2 hB0 ⊢
 have hsz0:W0.heap.size=n0+3:=by rw[← hW0];simp;omega
 have hT0:Tabs W0:=hT.later (by rw[hn0];exact hB0)
 have hlt:=tabs_lt hT
 rw[hn0] at hlt
 have hseq:=iter_any 4 (n0+2) s
 rw[← (show W0.heap[n0+2]? = _ from b3)] at hseq
 have hlen:=pcs_length s
 have hge0:n0+3≤W0.heap.size:=by omega
 clear hW0 b3
 refine range_st (w:=W0) (xs:=pcs s) (S:=n0+2) (T:=Tabs) rfl (by decide) (gf:=147) (lb:=#[.pointer (some ⟨n0+2,0,none⟩)]) rfl trivial (enters_of Tryz.func147 (by kernel_rfl) rfl)
  (by omega) hseq (fun _=>rfl)
  (fun pre W=>PInv n0 w (partsE false pre) (openE false pre) W)
  (fun _ _ _=>False) (fun _ _ h=>h.2.2.2)
  (fun pre A A' h hs=>?hI) (fun _ _ _ _ h _=>h) ⟨⟨_,b1,World.ownsRow_nil _ _ _ _⟩,b2,hB0,hT0⟩
  (fun x=>{ tmps:=#[.string s,undef,.slice none 0 0,.bool false,.pointer (some ⟨n0,0,none⟩),.pointer (some ⟨n0+1,0,none⟩),.string x,.string s,.func (.func 147) #[] #[.pointer (some ⟨n0+2,0,none⟩)],.string x,undef,undef,undef,undef,undef,undef,undef,undef,undef,undef,undef,undef,undef,undef,undef,undef,undef,undef,undef,undef,undef,undef,undef,undef,undef,undef,undef,undef,undef,undef],defers:=[] }) ?assign ?body ?done ?stop
 case hI=>
  obtain⟨⟨v,h1,h2⟩,h3,h4,h5⟩:=h
  exact⟨⟨v,boxed_still h1 hs (by omega),own_still h2 hs (by omega)⟩,boxed_still h3 hs (by omega),below_still h4 hs (by omega) (by omega) (by omega),tabs_still h5 hs ⟨by omega,by omega⟩⟩
 case assign=>
  intro l x W K hK
  gi_wp2
  exact hK
 case body=>
  rintro l pre x W hinv hx hsz
  obtain⟨⟨v,hv,hrow⟩,he,hB,hTW⟩:=id hinv
  have HI:=Lib.hid hinv
  clear hinv
  have hpl:pre.length<(pcs s).length:=(List.getElem?_eq_some_iff.1 hx).1
  have hpp:=partsE_length false pre
  clear hx
  have hc:=hv.cell
  have hec:=he.cell
  have hef:=he.frozen
  have HS:=Lib.hid (partsE_snoc pre x)
  have HE:=Lib.hid (openE_snoc pre x)
  have HC:=cells_new W [.int .i32 0,.string x] 182
  have HN:=Lib.hid hn0
  have hS2:n0+2<W.heap.size:=by omega
  clear hn0 ea hsz0
  have hBw:Below w.heap.size w W.drew:=by rw[HN.out];exact⟨hB.os,hB.tape,hB.output,hB.size,hB.block⟩
  have hnw:w.heap.size≤n0+3:=by have:=HN.out;omega
  cases ho:openE false pre
  ·have HO:=Lib.hid ho
   have HI2:Hid (PInv n0 w (partsE false pre) false W):=by show PInv _ _ _ _ _;have h9:=HI.out;rw[ho] at h9;exact h9
   rw[ho] at hec he
   clear ho
   have tb:=toList_beq x backslash
   have tp:=toList_beq x percent
   have tu:=toList_beq x underscore
   rw[show backslash.toList=[92] by rw[ByteArray.toList_eq];rfl] at tb
   rw[show percent.toList=[37] by rw[ByteArray.toList_eq];rfl] at tp
   rw[show underscore.toList=[95] by rw[ByteArray.toList_eq];rfl] at tu
   by_cases k1:x=backslash
   ·have K1:=Lib.hid k1
    rw[decide_eq_true k1] at tb
    clear tp tu k1
    gi_wp2
    obtain⟨h1,h2⟩:=pinv_set (B0:=W0.heap.size) true HI2.out hlt
    refine⟨h1,?_⟩
    show PInv n0 w (partsE false (pre++[x])) (openE false (pre++[x])) _
    rw[HS.out,HE.out,HO.out,K1.out,part_bs,List.append_nil,decide_eq_true rfl]
    exact h2
   ·rw[decide_eq_false k1] at tb
    have K1:=Lib.hid k1
    clear k1
    by_cases k2:x=percent
    ·rw[decide_eq_true k2] at tp
     have K2:=Lib.hid k2
     clear k2 tu
     have hx0:0<x.size:=by rw[K2.out];decide
     have hca:=(hv.alloc (.cells #[.int .i32 (IntKind.i32.wrap (x[0]'hx0).toNat),.string ⟨#[]⟩] 182)).cell
     have HV:Hid ([Value.int .i32 (IntKind.i32.wrap (x[0]'hx0).toNat),.string ⟨#[]⟩]=partVal (37,⟨#[]⟩)):=by show _=_;have:=K2.out;subst this;rfl
     gi_wp2
     have hm:Tryz.prog.follows .mixedOrders=true:=by kernel_rfl
     refine region_round hm (by kernel_rfl) (fun ⟨a,w,h⟩=>h) ?_
     refine wpAny_take (i:=1) (v:=?_) rfl (by kernel_rfl) (by kernel_rfl) (by kernel_rfl) (fun _ _ _ h=>h) (Or.inl ⟨by rfl,by intro w;go_simp;with_reducible rfl⟩) ?_
     refine wpAny_take (i:=2) (v:=?_) rfl (by kernel_rfl) (by kernel_rfl) (by kernel_rfl) (fun _ _ _ h=>h) (Or.inl ⟨by rfl,by intro w;go_simp;with_reducible rfl⟩) ?_
     refine wpAny_take (i:=3) (v:=?_) rfl (by kernel_rfl) (by kernel_rfl) (by kernel_rfl) (fun _ _ _ h=>h) (Or.inl ⟨by rfl,by intro w;go_simp;with_reducible rfl⟩) ?_
     refine wpAny_take (i:=4) (v:=?_) rfl (by kernel_rfl) (by kernel_rfl) (by kernel_rfl) (fun _ _ _ h=>h) (Or.inl ⟨by rfl,by intro w;go_simp;with_reducible rfl⟩) ?_
     refine wpAny_ready (rs:=[0,5]) (by kernel_rfl) (by simp) (AllReady.cons rfl (fun K hK=>?_) (AllReady.cons rfl (fun K hK=>?_) AllReady.nil))
     ·go_simp
      refine hK _ _ ?_
      clear hK K
      refine wpAny_ready (rs:=[5]) (by kernel_rfl) (by simp) (AllReady.cons rfl (fun K hK=>?_) AllReady.nil)
      go_simp
      refine hK _ _ ?_
      clear hK K
      refine wpAny_ready (rs:=[6]) (by kernel_rfl) (by simp) (AllReady.cons rfl (fun K hK=>?_) AllReady.nil)
      refine step_push_at (w0:=w) (w:=W.drew) (B:=n0+3) elPart (.tmp 30) (.tmp 35) rfl rfl v (partsE false pre).length (partCells (partsE false pre)) rfl hrow hBw hnw (by show n0+3≤W.heap.size;omega) [.int .i32 (IntKind.i32.wrap (x[0]'hx0).toNat),.string ⟨#[]⟩] rfl rfl rfl (by simp[Value.oneCell']) (by omega) ?_
      intro v' w1 hown' _ hgrow _
      obtain⟨g',cap',rfl⟩:=ownsRow_succ hown'
      obtain⟨ho1,hv1,hv2,hr2,hk2,hs2,hb2⟩:=pushed (W:=W.drew) hv hrow (by omega) hown' hgrow
      have hc1:=hv1.cell
      have hf1:=hv1.frozen
      refine hK _ _ ?_
      clear hK K
      refine wpAny_ready (rs:=[7]) (by kernel_rfl) (by simp) (AllReady.cons rfl (fun K hK=>?_) AllReady.nil)
      go_simp
      refine hK _ _ ?_
      clear hK K
      refine wpAny_done (by kernel_rfl) ?_ _
      gi_wp2
      obtain⟨h1,h2⟩:=pinv_push (B0:=W0.heap.size) (37,⟨#[]⟩) HI2.out hlt hS2 hv2 (by rw[← HV.out];exact hr2) ⟨hk2.size,hk2.same⟩ hs2 ⟨hb2.os,hb2.tape,hb2.output,hb2.size,hb2.block⟩
      refine⟨h1,?_⟩
      show PInv n0 w (partsE false (pre++[x])) (openE false (pre++[x])) _
      rw[HS.out,HE.out,HO.out,part_any K2.out,decide_eq_false K1.out]
      exact h2
     ·go_simp
      refine hK _ _ ?_
      clear hK K
      refine wpAny_ready (rs:=[0]) (by kernel_rfl) (by simp) (AllReady.cons rfl (fun K hK=>?_) AllReady.nil)
      go_simp
      refine hK _ _ ?_
      clear hK K
      refine wpAny_ready (rs:=[6]) (by kernel_rfl) (by simp) (AllReady.cons rfl (fun K hK=>?_) AllReady.nil)
      refine step_push_at (w0:=w) (w:=W.drew) (B:=n0+3) elPart (.tmp 30) (.tmp 35) rfl rfl v (partsE false pre).length (partCells (partsE false pre)) rfl hrow hBw hnw (by show n0+3≤W.heap.size;omega) [.int .i32 (IntKind.i32.wrap (x[0]'hx0).toNat),.string ⟨#[]⟩] rfl rfl rfl (by simp[Value.oneCell']) (by omega) ?_
      intro v' w1 hown' _ hgrow _
      obtain⟨g',cap',rfl⟩:=ownsRow_succ hown'
      obtain⟨ho1,hv1,hv2,hr2,hk2,hs2,hb2⟩:=pushed (W:=W.drew) hv hrow (by omega) hown' hgrow
      have hc1:=hv1.cell
      have hf1:=hv1.frozen
      refine hK _ _ ?_
      clear hK K
      refine wpAny_ready (rs:=[7]) (by kernel_rfl) (by simp) (AllReady.cons rfl (fun K hK=>?_) AllReady.nil)
      go_simp
      refine hK _ _ ?_
      clear hK K
      refine wpAny_done (by kernel_rfl) ?_ _
      gi_wp2
      obtain⟨h1,h2⟩:=pinv_push (B0:=W0.heap.size) (37,⟨#[]⟩) HI2.out hlt hS2 hv2 (by rw[← HV.out];exact hr2) ⟨hk2.size,hk2.same⟩ hs2 ⟨hb2.os,hb2.tape,hb2.output,hb2.size,hb2.block⟩
      refine⟨h1,?_⟩
      show PInv n0 w (partsE false (pre++[x])) (openE false (pre++[x])) _
      rw[HS.out,HE.out,HO.out,part_any K2.out,decide_eq_false K1.out]
      exact h2
    ·rw[decide_eq_false k2] at tp
     have K2:=Lib.hid k2
     clear k2
     by_cases k3:x=underscore
     ·rw[decide_eq_true k3] at tu
      have K3:=Lib.hid k3
      clear k3
      have hx0:0<x.size:=by rw[K3.out];decide
      have hca:=(hv.alloc (.cells #[.int .i32 (IntKind.i32.wrap (x[0]'hx0).toNat),.string ⟨#[]⟩] 182)).cell
      have HV:Hid ([Value.int .i32 (IntKind.i32.wrap (x[0]'hx0).toNat),.string ⟨#[]⟩]=partVal (95,⟨#[]⟩)):=by show _=_;have:=K3.out;subst this;rfl
      gi_wp2
      have hm:Tryz.prog.follows .mixedOrders=true:=by kernel_rfl
      refine region_round hm (by kernel_rfl) (fun ⟨a,w,h⟩=>h) ?_
      refine wpAny_take (i:=1) (v:=?_) rfl (by kernel_rfl) (by kernel_rfl) (by kernel_rfl) (fun _ _ _ h=>h) (Or.inl ⟨by rfl,by intro w;go_simp;with_reducible rfl⟩) ?_
      refine wpAny_take (i:=2) (v:=?_) rfl (by kernel_rfl) (by kernel_rfl) (by kernel_rfl) (fun _ _ _ h=>h) (Or.inl ⟨by rfl,by intro w;go_simp;with_reducible rfl⟩) ?_
      refine wpAny_take (i:=3) (v:=?_) rfl (by kernel_rfl) (by kernel_rfl) (by kernel_rfl) (fun _ _ _ h=>h) (Or.inl ⟨by rfl,by intro w;go_simp;with_reducible rfl⟩) ?_
      refine wpAny_take (i:=4) (v:=?_) rfl (by kernel_rfl) (by kernel_rfl) (by kernel_rfl) (fun _ _ _ h=>h) (Or.inl ⟨by rfl,by intro w;go_simp;with_reducible rfl⟩) ?_
      refine wpAny_ready (rs:=[0,5]) (by kernel_rfl) (by simp) (AllReady.cons rfl (fun K hK=>?_) (AllReady.cons rfl (fun K hK=>?_) AllReady.nil))
      ·go_simp
       refine hK _ _ ?_
       clear hK K
       refine wpAny_ready (rs:=[5]) (by kernel_rfl) (by simp) (AllReady.cons rfl (fun K hK=>?_) AllReady.nil)
       go_simp
       refine hK _ _ ?_
       clear hK K
       refine wpAny_ready (rs:=[6]) (by kernel_rfl) (by simp) (AllReady.cons rfl (fun K hK=>?_) AllReady.nil)
       refine step_push_at (w0:=w) (w:=W.drew) (B:=n0+3) elPart (.tmp 30) (.tmp 35) rfl rfl v (partsE false pre).length (partCells (partsE false pre)) rfl hrow hBw hnw (by show n0+3≤W.heap.size;omega) [.int .i32 (IntKind.i32.wrap (x[0]'hx0).toNat),.string ⟨#[]⟩] rfl rfl rfl (by simp[Value.oneCell']) (by omega) ?_
       intro v' w1 hown' _ hgrow _
       obtain⟨g',cap',rfl⟩:=ownsRow_succ hown'
       obtain⟨ho1,hv1,hv2,hr2,hk2,hs2,hb2⟩:=pushed (W:=W.drew) hv hrow (by omega) hown' hgrow
       have hc1:=hv1.cell
       have hf1:=hv1.frozen
       refine hK _ _ ?_
       clear hK K
       refine wpAny_ready (rs:=[7]) (by kernel_rfl) (by simp) (AllReady.cons rfl (fun K hK=>?_) AllReady.nil)
       go_simp
       refine hK _ _ ?_
       clear hK K
       refine wpAny_done (by kernel_rfl) ?_ _
       gi_wp2
       obtain⟨h1,h2⟩:=pinv_push (B0:=W0.heap.size) (95,⟨#[]⟩) HI2.out hlt hS2 hv2 (by rw[← HV.out];exact hr2) ⟨hk2.size,hk2.same⟩ hs2 ⟨hb2.os,hb2.tape,hb2.output,hb2.size,hb2.block⟩
       refine⟨h1,?_⟩
       show PInv n0 w (partsE false (pre++[x])) (openE false (pre++[x])) _
       rw[HS.out,HE.out,HO.out,part_one K3.out,decide_eq_false K1.out]
       exact h2
      ·go_simp
       refine hK _ _ ?_
       clear hK K
       refine wpAny_ready (rs:=[0]) (by kernel_rfl) (by simp) (AllReady.cons rfl (fun K hK=>?_) AllReady.nil)
       go_simp
       refine hK _ _ ?_
       clear hK K
       refine wpAny_ready (rs:=[6]) (by kernel_rfl) (by simp) (AllReady.cons rfl (fun K hK=>?_) AllReady.nil)
       refine step_push_at (w0:=w) (w:=W.drew) (B:=n0+3) elPart (.tmp 30) (.tmp 35) rfl rfl v (partsE false pre).length (partCells (partsE false pre)) rfl hrow hBw hnw (by show n0+3≤W.heap.size;omega) [.int .i32 (IntKind.i32.wrap (x[0]'hx0).toNat),.string ⟨#[]⟩] rfl rfl rfl (by simp[Value.oneCell']) (by omega) ?_
       intro v' w1 hown' _ hgrow _
       obtain⟨g',cap',rfl⟩:=ownsRow_succ hown'
       obtain⟨ho1,hv1,hv2,hr2,hk2,hs2,hb2⟩:=pushed (W:=W.drew) hv hrow (by omega) hown' hgrow
       have hc1:=hv1.cell
       have hf1:=hv1.frozen
       refine hK _ _ ?_
       clear hK K
       refine wpAny_ready (rs:=[7]) (by kernel_rfl) (by simp) (AllReady.cons rfl (fun K hK=>?_) AllReady.nil)
       go_simp
       refine hK _ _ ?_
       clear hK K
       refine wpAny_done (by kernel_rfl) ?_ _
       gi_wp2
       obtain⟨h1,h2⟩:=pinv_push (B0:=W0.heap.size) (95,⟨#[]⟩) HI2.out hlt hS2 hv2 (by rw[← HV.out];exact hr2) ⟨hk2.size,hk2.same⟩ hs2 ⟨hb2.os,hb2.tape,hb2.output,hb2.size,hb2.block⟩
       refine⟨h1,?_⟩
       show PInv n0 w (partsE false (pre++[x])) (openE false (pre++[x])) _
       rw[HS.out,HE.out,HO.out,part_one K3.out,decide_eq_false K1.out]
       exact h2
     ·rw[decide_eq_false k3] at tu
      have K3:=Lib.hid k3
      clear k3
      gi_wp2_with (gi_at_builtin;refine wpListIn_append_own _ rfl _ _ 170 rfl (n0+3) 182 i0 (.agg #[.int .i32 0,.string ByteArray.empty]) 2 24 Tryz.underlying170 hi hz0 hz1 hz2 rfl (by decide) _ _ _ rfl (hrow.alloc _) ⟨W.heap.size,0,none⟩ 1 1 [.int .i32 0,.string x] rfl rfl HC (by simp[Value.oneCell']) (by unfold maxLen;omega) (by omega) (by simp;omega) ?_;intro v' w1 hown' hgrow _;obtain⟨g',cap',rfl⟩:=ownsRow_succ hown';obtain⟨ho1,hv1,hv2,hr2,hk2,hs2,hb2⟩:=pushed hv hrow (by omega) hown' (grown_of_alloc hgrow);have hc1:=hv1.cell;have hf1:=hv1.frozen)
      obtain⟨h1,h2⟩:=pinv_push (B0:=W0.heap.size) (0,x) HI2.out hlt hS2 hv2 hr2 hk2 hs2 hb2
      refine⟨h1,?_⟩
      show PInv n0 w (partsE false (pre++[x])) (openE false (pre++[x])) _
      rw[HS.out,HE.out,HO.out,part_self K1.out K2.out K3.out,decide_eq_false K1.out]
      exact h2
  ·have HO:=Lib.hid ho
   have HI2:Hid (PInv n0 w (partsE false pre) true W):=by show PInv _ _ _ _ _;have h9:=HI.out;rw[ho] at h9;exact h9
   rw[ho] at hec he
   clear ho
   gi_wp2_with (gi_at_builtin;refine wpListIn_append_own _ rfl _ _ 170 rfl (n0+3) 182 i0 (.agg #[.int .i32 0,.string ByteArray.empty]) 2 24 Tryz.underlying170 hi hz0 hz1 hz2 rfl (by decide) _ _ _ rfl (hrow.alloc _) ⟨W.heap.size,0,none⟩ 1 1 [.int .i32 0,.string x] rfl rfl HC (by simp[Value.oneCell']) (by unfold maxLen;omega) (by omega) (by simp;omega) ?_;intro v' w1 hown' hgrow _;obtain⟨g',cap',rfl⟩:=ownsRow_succ hown';obtain⟨ho1,hv1,hv2,hr2,hk2,hs2,hb2⟩:=pushed hv hrow (by omega) hown' (grown_of_alloc hgrow);have hc1:=hv1.cell;have hf1:=hv1.frozen;have he1:=ho1 _ _ _ he (by omega);have hec1:=he1.cell;have hef1:=he1.frozen)
   obtain⟨h1,h2⟩:=pinv_push (B0:=W0.heap.size) (0,x) HI2.out hlt hS2 hv2 hr2 hk2 hs2 hb2
   obtain⟨h3,h4⟩:=pinv_set (B0:=W0.heap.size) false h2 hlt
   refine⟨h1.trans h3,?_⟩
   show PInv n0 w (partsE false (pre++[x])) (openE false (pre++[x])) _
   rw[HS.out,HE.out,HO.out,part_esc]
   exact h4
 case done=>
  rintro D W hD ⟨⟨v,hv,hrow⟩,he,hB,hTW⟩ hK
  have hc:=hv.cell
  have hec:=he.cell
  gi_wp2
  refine wpIn_wide.2 ?_
  go_quiet (fail)
  gi_wp2
  refine⟨by simp,.inl ⟨_,_,rfl,run_takeDeferred hK,?_⟩⟩
  refine⟨_,results_tmp2 rfl _ _ _,v,rfl,ownsRow_putObj (own_mono hrow (by omega)) _ hK rfl,?_⟩
  have h9:=hB.trans (belowK_b (w:=W0) (n₀:=n0) (by omega) W D (.deferred (some [])) (.deferred none) (by omega) hK rfl rfl)
  rw[hn0]
  exact⟨h9.os,h9.tape,h9.output,h9.size,h9.block⟩
 case stop=>
  rintro D c pre W _ _ h _
  exact h.elim
end Go.Proofs.YtegpnpdnanfhbaaGreatDoor.LikeP
