/- FilterBoth: FilterBoth, of all lists of rows, columns and expressions whose parts are together no more than 1048576. Conditions: none beyond the statement's own. -/
import Derived.Test.YtdgmbijjhifbeaaGreatDoorYOpen
import Derived.Test.YtdgmbijjhifbeaaGreatDoorCards
import Derived.Test.YtdgmbijjhifbeaaGreatDoorTie
import Derived.Test.YtdgmbijjhifbeaaGreatDoorYUpto
import Derived.Test.YtdgmbijjhifbeaaGreatDoorZ7
namespace Go.Proofs.YtdgmbijjhifbeaaGreatDoor.filterBoth
open Go.ChangeShapes Go.WideShapes Go.ChangeAt Go.RowKit
open Go.ChangeMaps (open_string shut_string)
set_option linter.unusedVariables false
open K Pm
theorem witness_row (os:Os) {H:Type} (enc:TypeId×Value→H) :
  (Rows.OpenSpec.upto Rows.filterBothSpec).preRow enc Tryz.prog Tryz.f4 Rows.filterBothUptoRow.domain false Rows.filterBothUptoRow.laid ((Pm.laidWorld os).forCall (fun _ _=>0) ⟨#[],#[.slice none 0 0,.slice none 0 0,.slice none 0 0,.slice none 0 0],[]⟩).memory #[.slice none 0 0,.slice none 0 0,.slice none 0 0,.slice none 0 0]:=by
 have hw:(DataW.whole enc Tryz.prog ((Pm.laidWorld os).forCall (fun _ _=>0) ⟨#[],#[.slice none 0 0,.slice none 0 0,.slice none 0 0,.slice none 0 0],[]⟩).memory Tryz.f4.params.toList (Rows.OpenSpec.upto Rows.filterBothSpec).vars false (#[.slice none 0 0,.slice none 0 0,.slice none 0 0,.slice none 0 0]:Array Value).toList 8).map (fun x=>(x.1,x.2.1)) =
   some ([.nil,.nil,.nil,.nil],[]):=by kernel_rfl
 obtain⟨⟨x1,x2,x3⟩,hx,hx1⟩:=Option.map_eq_some_iff.1 hw
 simp only[Prod.mk.injEq] at hx1
 obtain⟨rfl,rfl⟩:=hx1
 exact OpenSpec.preRow_of_cond 8 hx (by kernel_rfl) (fun k hk=>by cases hk;kernel_rfl) (by kernel_rfl) (Pm.toH (Pm.laid_met os _))
set_option maxRecDepth 100000 in
theorem lifted (os:Os) (started:os.Started) (H:Type) (enc:TypeId×Value→H) (Fi:Stop.Interp) :
  ReturnsInHanded {} Tryz.checked os 4 .any ((Rows.OpenSpec.upto Rows.filterBothSpec).preRow enc Tryz.prog Tryz.f4 Rows.filterBothUptoRow.domain false Rows.filterBothUptoRow.laid) (((Rows.OpenSpec.upto Rows.filterBothSpec).at Fi).post enc Tryz.prog Tryz.f4 false true false false):=by
 refine returnsInHanded_of_row (C:=Tryz.checked) (s:=(Rows.OpenSpec.upto Rows.filterBothSpec)) own started (by kernel_rfl) Tryz.func4
  (witness_row_atRef (enc:=enc) (C:=Tryz.checked) false (Pm.laidWorld os) #[.slice none 0 0,.slice none 0 0,.slice none 0 0,.slice none 0 0] rfl (by kernel_rfl) (by kernel_rfl) (by kernel_rfl) (witness_row os enc)) ?_
 intro W base args ds gs before hval0 hW hcnd hk0 hsz0 hL0 _ _
 have hk:=hk0 _ rfl
 have hL:=Pm.ofH hL0
 have hval:∀(j:Nat) t v,Tryz.f4.params[j]? = some t→args[j]? = some v→Value.okWide Tryz.prog W .any base t v:=hval0
 have hsz:(DataW.weightsEach Tryz.prog (Tryz.f4.params.toList++(Rows.OpenSpec.upto Rows.filterBothSpec).bare.plain.varTypes Tryz.prog) (ds++gs)).all (·≤reachBytes)=true:=hsz0
 have hW':=hW
 obtain⟨p,q,hA0,hV,rfl,hfz,hnd⟩:=hW
 have hA:DataW.TrodAll enc Tryz.prog W 0 (fun _=>true) true Tryz.f4.params.toList args.toList ds p:=hA0
 rw[Tryz.params4] at hA hval hsz
 obtain⟨v0,vs0,d0,ds0,p0,q0,hargs,rfl,rfl,h0,r0⟩:=trodAll_cons hA
 obtain⟨v1,vs1,d1,ds1,p1,q1,rfl,rfl,rfl,h1,r1⟩:=trodAll_cons r0
 obtain⟨v2,vs2,d2,ds2,p2,q2,rfl,rfl,rfl,h2,r2⟩:=trodAll_cons r1
 obtain⟨v3,vs3,d3,ds3,p3,q3,rfl,rfl,rfl,h3,r3⟩:=trodAll_cons r2
 obtain⟨rfl,rfl,rfl⟩:=trodAll_nil r3
 obtain rfl:args=#[v0,v1,v2,v3]:=by cases args;simp_all
 obtain⟨rfl,rfl⟩:=trodVars_none hV
 obtain⟨x0,R0,k0⟩:=open_param (Pm.openC_slice (sz:=1) (enc:=(eSl 3 ValueD.c)) Tryz.underlying22 (by kernel_rfl) (fun _=>rfl) (Pm.openC_slice (sz:=3) (enc:=ValueD.c) Tryz.underlying49 (by kernel_rfl) (fun _=>rfl) Pm.openC_Value)) h0 hsz (j:=0) (t:=22) rfl rfl
 have D0:=Pm.prep_one (by obtain⟨_,_,_,rfl⟩:=okWide_slice Tryz.underlying22 (hval 0 22 v0 rfl rfl);rfl) R0
 obtain⟨x1,R1,k1⟩:=open_param (Pm.openC_slice (sz:=1) (enc:=Pm.eText) Tryz.underlying23 (by kernel_rfl) (fun _=>rfl) (Pm.openC_text Tryz.underlying9 (by kernel_rfl))) h1 hsz (j:=1) (t:=23) rfl rfl
 have D1:=Pm.prep_one (by obtain⟨_,_,_,rfl⟩:=okWide_slice Tryz.underlying23 (hval 1 23 v1 rfl rfl);rfl) R1
 obtain⟨x2,R2,k2⟩:=open_param (Pm.openC_slice (sz:=6) (enc:=NodeD.c) Tryz.underlying24 (by kernel_rfl) (fun _=>rfl) Pm.openC_Node) h2 hsz (j:=2) (t:=24) rfl rfl
 have D2:=Pm.prep_one (by obtain⟨_,_,_,rfl⟩:=okWide_slice Tryz.underlying24 (hval 2 24 v2 rfl rfl);rfl) R2
 obtain⟨x3,R3,k3⟩:=open_param (Pm.openC_slice (sz:=6) (enc:=NodeD.c) Tryz.underlying24 (by kernel_rfl) (fun _=>rfl) Pm.openC_Node) h3 hsz (j:=3) (t:=24) rfl rfl
 have D3:=Pm.prep_one (by obtain⟨_,_,_,rfl⟩:=okWide_slice Tryz.underlying24 (hval 3 24 v3 rfl rfl);rfl) R3
 have hbulk:Rows.uptoBulkAll _≤1048576:=of_decide_eq_true hk
 simp only[List.append_nil,Rows.uptoBulkAll] at hbulk
 have z0:x0.length≤1048576:=Pm.slice_bulk Tryz.underlying22 h0 R0 (by omega)
 have z1:x1.length≤1048576:=Pm.slice_bulk Tryz.underlying23 h1 R1 (by omega)
 have z2:x2.length≤1048576:=Pm.slice_bulk Tryz.underlying24 h2 R2 (by omega)
 have z3:x3.length≤1048576:=Pm.slice_bulk Tryz.underlying24 h3 R3 (by omega)
 clear hbulk hk
 clear hA0 hval0
 refine (Pm.Pure.walkF (Pm.law_FilterBoth x0 k0 x1 k1 x2 k2 x3 k3 z0 z1 z2 z3) (w:=W) (Pm.tabs_of_laid hL) [v0,v1,v2,v3] (Pm.psF_cons D0 (Pm.psF_cons D1 (Pm.psF_cons D2 (Pm.psF_cons D3 Pm.psF_nil))))).mono fun e W' ⟨he,bel⟩=>?_
 subst he
 exact⟨_,rfl,post_true (s:=Rows.filterBothSpec) laidOut (by kernel_rfl) Tryz.underlying4 (by kernel_rfl) rfl hW' rfl bel⟩
theorem row_holds:Rows.FilterBothUptoSaid:=
 OpenClaim.holds_of_cond 4 Tryz.f4 rfl rfl rfl rfl rfl rfl rfl ⟨rfl,rfl,rfl,rfl,rfl⟩ rfl rfl rfl rfl rfl (by kernel_rfl) Tryz.func4 (by kernel_rfl)
  (of_decide_eq_true (by kernel_rfl)) (by unfold Func.isWrapper;first | (rw[if_pos (by decide +kernel)];kernel_rfl) | (rw[if_neg (by decide +kernel)];exact⟨rfl,rfl⟩))
  (fun os started H enc _ Fi=>by rw[OpenClaim.pre_eq_preRow];exact lifted os started H enc Fi)
theorem proved:Rows.FilterBothUptoCardSaid:=
 Claim7.holds_tied_plain_at .later [] _ true Rows.filterBothUptoCard.stood.harness Rows.filterBothUptoCard.stood.looks
  row_holds (fun _ h=>by cases h) (by kernel_rfl) (fun _ h=>by cases h) filterBothUpto_row_tie rfl ⟨rfl,rfl⟩ (by kernel_rfl) rfl
  (fun f fn hf hfn=>by
   obtain rfl:f=4:=Option.some.inj ((show Tryz.prog.funcNamed "starling/starlinglaw.FilterBoth" = some 4 by kernel_rfl).symm.trans hf) |>.symm
   obtain rfl:fn=Tryz.f4:=(Option.some.inj (Tryz.func4.symm.trans hfn)).symm
   exact⟨by kernel_rfl,fun j t ht=>by
    have hall:(Tryz.f4.params.toList.all fun u=>!Tryz.prog.wantsStandIn u)=true:=by kernel_rfl
    have hm:t∈Tryz.f4.params.toList:=Array.mem_toList_iff.2 (Array.mem_of_getElem? ht)
    exact (show Tryz.prog.wantsStandIn t=false by simpa using List.all_eq_true.1 hall t hm)⟩)
  (by kernel_rfl)
end Go.Proofs.YtdgmbijjhifbeaaGreatDoor.filterBoth
