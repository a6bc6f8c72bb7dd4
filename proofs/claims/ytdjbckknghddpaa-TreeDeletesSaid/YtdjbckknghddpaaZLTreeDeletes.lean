/- TreeDeletes: TreeDeletes, of all trees and keys. Conditions: none beyond the statement's own. -/
import Derived.Test.YtdjbckknghddpaaYFrame
import Derived.Test.YtdjbckknghddpaaYOpen
import Derived.Test.YtdjbckknghddpaaZ9
namespace Go.Proofs.Ytdjbckknghddpaa.treeDeletes
open Go.ChangeShapes Go.WideShapes Go.ChangeAt Go.RowKit
open Go.ChangeMaps (open_string shut_string)
set_option linter.unusedVariables false
open K Pm
set_option maxRecDepth 100000 in
theorem lifted (os:Os) (started:os.Started) (H:Type) (enc:TypeId×Value→H) :
  ReturnsInHanded {} Try.checked os 4 .any (Rows.treeDeletesSpec.pre6 enc Try.prog Try.f4 Rows.treeDeletesRow.domain false) (Rows.treeDeletesSpec.post enc Try.prog Try.f4 false true false false):=by
 refine returnsInHanded_of_change_sized (C:=Try.checked) own started (by kernel_rfl) Try.func4
  (ChangeSpec.witness6 (enc:=enc) (C:=Try.checked) false ⟨#[],#[.agg #[.slice none 0 0,.slice none 0 0],.string ByteArray.empty],[]⟩ 8 (by kernel_rfl) (by kernel_rfl) (by kernel_rfl) (by kernel_rfl)) ?_
 intro W base args ds gs before hval0 hW hcnd hsz0 _
 have hval:∀(j:Nat) t v,Try.f4.params[j]? = some t→args[j]? = some v→Value.okWide Try.prog W .any base t v:=hval0
 have hsz:(DataW.weightsEach Try.prog (Try.f4.params.toList++Rows.treeDeletesSpec.plain.varTypes Try.prog) (ds++gs)).all (·≤reachBytes)=true:=hsz0
 have hW':=hW
 obtain⟨p,q,hA0,hV,rfl,hfz,hnd⟩:=hW
 have hA:DataW.TrodAll enc Try.prog W 0 (fun _=>true) true Try.f4.params.toList args.toList ds p:=hA0
 rw[Try.params4] at hA hval hsz
 obtain⟨v0,vs0,d0,ds0,p0,q0,hargs,rfl,rfl,h0,r0⟩:=trodAll_cons hA
 obtain⟨v1,vs1,d1,ds1,p1,q1,rfl,rfl,rfl,h1,r1⟩:=trodAll_cons r0
 obtain⟨rfl,rfl,rfl⟩:=trodAll_nil r1
 obtain rfl:args=#[v0,v1]:=by cases args;simp_all
 obtain⟨rfl,rfl⟩:=trodVars_none hV
 obtain⟨x0,R0,k0⟩:=open_param Pm.openC_Tree h0 hsz (j:=0) (t:=25) rfl rfl
 have D0:=Pm.prep_agg (agg_cells Try.underlying25 (hval 0 25 v0 rfl rfl) rfl) R0
 obtain⟨a1,rfl,rfl,rfl,wm1⟩:=open_string Try.underlying9 (hval 1 9 v1 rfl rfl) h1
 have w1:a1.size≤140737488351232:=by
  have:=sized_string hsz (j:=1) (t:=9) rfl rfl
  simpa [reachBytes] using this
 clear hA0 hval0
 refine (Pm.Pure.walkF (Pm.law_TreeDeletes x0 k0 a1.data.toList w1) (w:=W) trivial [v0,_] (Pm.psF_cons D0 (Pm.psF_cons (Pm.prep_text a1) Pm.psF_nil))).mono fun e W' ⟨he,bel⟩=>?_
 subst he
 exact⟨_,rfl,post_true laidOut (by kernel_rfl) Try.underlying4 (by kernel_rfl) rfl hW' rfl bel⟩
theorem proved:Rows.TreeDeletesSaid:=
 OpenClaim.holds_of_wide 4 Try.f4 rfl rfl rfl rfl rfl rfl rfl ⟨rfl,rfl,rfl,rfl,rfl⟩ rfl rfl rfl rfl rfl (by kernel_rfl) Try.func4 (by kernel_rfl)
  (of_decide_eq_true (by kernel_rfl)) (by unfold Func.isWrapper;first | (rw[if_pos (by decide +kernel)];kernel_rfl) | (rw[if_neg (by decide +kernel)];exact⟨rfl,rfl⟩))
  (fun os started H enc _=>lifted os started H enc)
end Go.Proofs.Ytdjbckknghddpaa.treeDeletes
