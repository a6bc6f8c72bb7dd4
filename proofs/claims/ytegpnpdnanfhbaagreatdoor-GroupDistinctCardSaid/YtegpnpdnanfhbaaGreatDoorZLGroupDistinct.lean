/- GroupDistinct: GroupDistinct, of all lists of rows. Conditions: none beyond the statement's own. -/
import Derived.Test.YtegpnpdnanfhbaaGreatDoorYOpen
import Derived.Test.YtegpnpdnanfhbaaGreatDoorCards
import Derived.Test.YtegpnpdnanfhbaaGreatDoorTie
import Derived.Test.YtegpnpdnanfhbaaGreatDoorZ8
namespace Go.Proofs.YtegpnpdnanfhbaaGreatDoor.groupDistinct
open Go.ChangeShapes Go.WideShapes Go.ChangeAt Go.RowKit
open Go.ChangeMaps (open_string shut_string)
set_option linter.unusedVariables false
open K Pm
set_option maxRecDepth 100000 in
theorem lifted (os:Os) (started:os.Started) (H:Type) (enc:TypeId×Value→H) :
  ReturnsInHanded {} Tryz.checked os 6 .any (fun w args=>(Rows.groupDistinctSpec.pre enc Tryz.prog Tryz.f6 Rows.groupDistinctRow.domain false w args∧laidMet Tryz.prog Rows.groupDistinctRow.laid w)∧sizedMet enc Tryz.prog Tryz.f6 (OpenSpec.ofChange Rows.groupDistinctSpec) false w args) (Rows.groupDistinctSpec.post enc Tryz.prog Tryz.f6 false true false false):=by
 refine returnsInHanded_of_change_and (C:=Tryz.checked) (X:=fun w _=>laidMet Tryz.prog Rows.groupDistinctRow.laid w) (fun _ _ _ hh h=>h.of_heap hh) own started (by kernel_rfl) Tryz.func6
  (ChangeSpec.witness_at (enc:=enc) (C:=Tryz.checked) (os:=os) (X:=fun w _=>laidMet Tryz.prog Rows.groupDistinctRow.laid w) false (Pm.laidWorld os) #[.slice none 0 0] 8 rfl (by kernel_rfl) (by kernel_rfl) (by kernel_rfl) (by kernel_rfl) (by kernel_rfl)
   (Pm.laid_met os _)) ?_
 intro W base args ds gs before hval0 hW hcnd hsz0 hL _
 have hval:∀(j:Nat) t v,Tryz.f6.params[j]? = some t→args[j]? = some v→Value.okWide Tryz.prog W .any base t v:=hval0
 have hsz:(DataW.weightsEach Tryz.prog (Tryz.f6.params.toList++Rows.groupDistinctSpec.plain.varTypes Tryz.prog) (ds++gs)).all (·≤reachBytes)=true:=hsz0
 have hW':=hW
 obtain⟨p,q,hA0,hV,rfl,hfz,hnd⟩:=hW
 have hA:DataW.TrodAll enc Tryz.prog W 0 (fun _=>true) true Tryz.f6.params.toList args.toList ds p:=hA0
 rw[Tryz.params6] at hA hval hsz
 obtain⟨v0,vs0,d0,ds0,p0,q0,hargs,rfl,rfl,h0,r0⟩:=trodAll_cons hA
 obtain⟨rfl,rfl,rfl⟩:=trodAll_nil r0
 obtain rfl:args=#[v0]:=by cases args;simp_all
 obtain⟨rfl,rfl⟩:=trodVars_none hV
 obtain⟨x0,R0,k0⟩:=open_param (Pm.openC_slice (sz:=1) (enc:=(eSl 3 ValueD.c)) Tryz.underlying22 (by kernel_rfl) (fun _=>rfl) (Pm.openC_slice (sz:=3) (enc:=ValueD.c) Tryz.underlying33 (by kernel_rfl) (fun _=>rfl) Pm.openC_Value)) h0 hsz (j:=0) (t:=22) rfl rfl
 have D0:=Pm.prep_one (by obtain⟨_,_,_,rfl⟩:=okWide_slice Tryz.underlying22 (hval 0 22 v0 rfl rfl);rfl) R0
 clear hA0 hval0
 refine (Pm.Pure.walkF (Pm.law_GroupDistinct x0 k0) (w:=W) (Pm.tabs_of_laid hL) [v0] (Pm.psF_cons D0 Pm.psF_nil)).mono fun e W' ⟨he,bel⟩=>?_
 subst he
 exact⟨_,rfl,post_true laidOut (by kernel_rfl) Tryz.underlying4 (by kernel_rfl) rfl hW' rfl bel⟩
theorem row_holds:Rows.GroupDistinctSaid:=
 OpenClaim.holds_of_wide 6 Tryz.f6 rfl rfl rfl rfl rfl rfl rfl ⟨rfl,rfl,rfl,rfl,rfl⟩ rfl rfl rfl rfl rfl (by kernel_rfl) Tryz.func6 (by kernel_rfl)
  (of_decide_eq_true (by kernel_rfl)) (by unfold Func.isWrapper;first | (rw[if_pos (by decide +kernel)];kernel_rfl) | (rw[if_neg (by decide +kernel)];exact⟨rfl,rfl⟩))
  (fun os started H enc _=>lifted os started H enc)
theorem proved:Rows.GroupDistinctCardSaid:=
 Claim7.holds_tied_plain_at .later [] _ true Rows.groupDistinctCard.stood.harness Rows.groupDistinctCard.stood.looks
  row_holds (fun _ h=>by cases h) (by kernel_rfl) (fun _ h=>by cases h) groupDistinct_row_tie rfl ⟨rfl,rfl⟩ (by kernel_rfl) rfl
  (fun f fn hf hfn=>by
   obtain rfl:f=6:=Option.some.inj ((show Tryz.prog.funcNamed "starling/starlinglaw.GroupDistinct" = some 6 by kernel_rfl).symm.trans hf) |>.symm
   obtain rfl:fn=Tryz.f6:=(Option.some.inj (Tryz.func6.symm.trans hfn)).symm
   exact⟨by kernel_rfl,fun j t ht=>by
    have hall:(Tryz.f6.params.toList.all fun u=>!Tryz.prog.wantsStandIn u)=true:=by kernel_rfl
    have hm:t∈Tryz.f6.params.toList:=Array.mem_toList_iff.2 (Array.mem_of_getElem? ht)
    exact (show Tryz.prog.wantsStandIn t=false by simpa using List.all_eq_true.1 hall t hm)⟩)
  (by kernel_rfl)
end Go.Proofs.YtegpnpdnanfhbaaGreatDoor.groupDistinct
