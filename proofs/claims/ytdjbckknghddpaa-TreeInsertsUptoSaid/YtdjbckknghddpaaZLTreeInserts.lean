/- TreeInserts: TreeInserts, of all trees and keys whose parts are together no more than 1048576. Conditions: none beyond the statement's own. -/
import Derived.Test.YtdjbckknghddpaaYFrame
import Derived.Test.YtdjbckknghddpaaYOpen
import Derived.Test.YtdjbckknghddpaaYUpto
import Derived.Test.YtdjbckknghddpaaZ9
namespace Go.Proofs.Ytdjbckknghddpaa.treeInserts
open Go.ChangeShapes Go.WideShapes Go.ChangeAt Go.RowKit
open Go.ChangeMaps (open_string shut_string)
set_option linter.unusedVariables false
open K Pm
set_option maxRecDepth 100000 in
theorem lifted (os:Os) (started:os.Started) (H:Type) (enc:TypeId×Value→H) (Fi:Stop.Interp) :
  ReturnsInHanded {} Try.checked os 3 .any ((Rows.OpenSpec.upto Rows.treeInsertsSpec).pre6 enc Try.prog Try.f3 Rows.treeInsertsUptoRow.domain false) (((Rows.OpenSpec.upto Rows.treeInsertsSpec).at Fi).post enc Try.prog Try.f3 false true false false):=by
 refine returnsInHanded_of_cond_sized (C:=Try.checked) (s:=(Rows.OpenSpec.upto Rows.treeInsertsSpec)) (k:=Rows.uptoSmall) rfl own started (by kernel_rfl) Try.func3
  (OpenSpec.witness (enc:=enc) (C:=Try.checked) (s:=(Rows.OpenSpec.upto Rows.treeInsertsSpec)) (k:=Rows.uptoSmall) rfl false ⟨#[],#[.agg #[.slice none 0 0,.slice none 0 0],.string ByteArray.empty,.int .i64 0],[]⟩ 8 (by kernel_rfl) (by kernel_rfl) (by kernel_rfl)
   (x:=([.agg [.nil,.nil],.lit (.string []),.lit (.int .i64 0)],[],[])) (by kernel_rfl) rfl (by kernel_rfl)) ?_
 intro W base args ds gs before hval0 hW hcnd hk hsz0 _
 have hval:∀(j:Nat) t v,Try.f3.params[j]? = some t→args[j]? = some v→Value.okWide Try.prog W .any base t v:=hval0
 have hsz:(DataW.weightsEach Try.prog (Try.f3.params.toList++(Rows.OpenSpec.upto Rows.treeInsertsSpec).bare.plain.varTypes Try.prog) (ds++gs)).all (·≤reachBytes)=true:=hsz0
 have hW':=hW
 obtain⟨p,q,hA0,hV,rfl,hfz,hnd⟩:=hW
 have hA:DataW.TrodAll enc Try.prog W 0 (fun _=>true) true Try.f3.params.toList args.toList ds p:=hA0
 rw[Try.params3] at hA hval hsz
 obtain⟨v0,vs0,d0,ds0,p0,q0,hargs,rfl,rfl,h0,r0⟩:=trodAll_cons hA
 obtain⟨v1,vs1,d1,ds1,p1,q1,rfl,rfl,rfl,h1,r1⟩:=trodAll_cons r0
 obtain⟨v2,vs2,d2,ds2,p2,q2,rfl,rfl,rfl,h2,r2⟩:=trodAll_cons r1
 obtain⟨rfl,rfl,rfl⟩:=trodAll_nil r2
 obtain rfl:args=#[v0,v1,v2]:=by cases args;simp_all
 obtain⟨rfl,rfl⟩:=trodVars_none hV
 obtain⟨x0,R0,k0⟩:=open_param Pm.openC_Tree h0 hsz (j:=0) (t:=25) rfl rfl
 have D0:=Pm.prep_agg (agg_cells Try.underlying25 (hval 0 25 v0 rfl rfl) rfl) R0
 obtain⟨a1,rfl,rfl,rfl,wm1⟩:=open_string Try.underlying9 (hval 1 9 v1 rfl rfl) h1
 have w1:a1.size≤140737488351232:=by
  have:=sized_string hsz (j:=1) (t:=9) rfl rfl
  simpa [reachBytes] using this
 obtain⟨a2,rfl,rfl,rfl,wf2⟩:=open_int Try.underlying2 (hval 2 2 v2 rfl rfl) h2
 have w2:-9223372036854775808≤a2∧a2≤9223372036854775807:=by simpa [Lit.wf,IntKind.min,IntKind.max,IntKind.signed,IntKind.bits] using wf2
 have hbulk:Rows.uptoBulkAll _≤1048576:=of_decide_eq_true hk
 simp only[List.append_nil,Rows.uptoBulkAll] at hbulk
 have z0:=Pm.tree_bulk h0 R0 (N:=1048576) (by omega)
 clear hbulk hk
 clear hA0 hval0
 refine (Pm.Pure.walkF (Pm.law_TreeInserts x0 k0 a1.data.toList w1 a2 w2 z0) (w:=W) trivial [v0,_,_] (Pm.psF_cons D0 (Pm.psF_cons (Pm.prep_text a1) (Pm.psF_cons (Pm.rep_int _ _) Pm.psF_nil)))).mono fun e W' ⟨he,bel⟩=>?_
 subst he
 exact⟨_,rfl,post_true (s:=Rows.treeInsertsSpec) laidOut (by kernel_rfl) Try.underlying4 (by kernel_rfl) rfl hW' rfl bel⟩
theorem proved:Rows.TreeInsertsUptoSaid:=
 OpenClaim.holds_of_cond 3 Try.f3 rfl rfl rfl rfl rfl rfl rfl ⟨rfl,rfl,rfl,rfl,rfl⟩ rfl rfl rfl rfl rfl (by kernel_rfl) Try.func3 (by kernel_rfl)
  (of_decide_eq_true (by kernel_rfl)) (by unfold Func.isWrapper;first | (rw[if_pos (by decide +kernel)];kernel_rfl) | (rw[if_neg (by decide +kernel)];exact⟨rfl,rfl⟩))
  (fun os started H enc _ Fi=>lifted os started H enc Fi)
end Go.Proofs.Ytdjbckknghddpaa.treeInserts
