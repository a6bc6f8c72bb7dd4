/- TreeMap: TreeMap, of all trees, keys and Ids. Conditions: none beyond the statement's own. -/
import Derived.Test.YthejollbijglcaaYFrame
import Derived.Test.YthejollbijglcaaYOpen
import Derived.Test.YthejollbijglcaaZ8
namespace Go.Proofs.Ythejollbijglcaa.treeMap
open Go.ChangeShapes Go.WideShapes Go.ChangeAt Go.RowKit
open Go.ChangeMaps (open_string shut_string)
set_option linter.unusedVariables false
open K Pm
set_option maxRecDepth 100000 in
theorem lifted (os:Os) (started:os.Started) (H:Type) (enc:TypeId×Value→H) :
  ReturnsInHanded {} Try.checked os 6 .any (Rows.treeMapSpec.pre6 enc Try.prog Try.f6 Rows.treeMapRow.domain false) (Rows.treeMapSpec.post enc Try.prog Try.f6 false true false false):=by
 refine returnsInHanded_of_change_sized (C:=Try.checked) own started (by kernel_rfl) Try.func6
  (ChangeSpec.witness6 (enc:=enc) (C:=Try.checked) false ⟨#[],#[.agg #[.slice none 0 0,.slice none 0 0],.string ByteArray.empty,.int .i64 0,.string ByteArray.empty],[]⟩ 8 (by kernel_rfl) (by kernel_rfl) (by kernel_rfl) (by kernel_rfl)) ?_
 intro W base args ds gs before hval0 hW hcnd hsz0 _
 have hval:∀(j:Nat) t v,Try.f6.params[j]? = some t→args[j]? = some v→Value.okWide Try.prog W .any base t v:=hval0
 have hsz:(DataW.weightsEach Try.prog (Try.f6.params.toList++Rows.treeMapSpec.plain.varTypes Try.prog) (ds++gs)).all (·≤reachBytes)=true:=hsz0
 have hW':=hW
 obtain⟨p,q,hA0,hV,rfl,hfz,hnd⟩:=hW
 have hA:DataW.TrodAll enc Try.prog W 0 (fun _=>true) true Try.f6.params.toList args.toList ds p:=hA0
 rw[Try.params6] at hA hval hsz
 obtain⟨v0,vs0,d0,ds0,p0,q0,hargs,rfl,rfl,h0,r0⟩:=trodAll_cons hA
 obtain⟨v1,vs1,d1,ds1,p1,q1,rfl,rfl,rfl,h1,r1⟩:=trodAll_cons r0
 obtain⟨v2,vs2,d2,ds2,p2,q2,rfl,rfl,rfl,h2,r2⟩:=trodAll_cons r1
 obtain⟨v3,vs3,d3,ds3,p3,q3,rfl,rfl,rfl,h3,r3⟩:=trodAll_cons r2
 obtain⟨rfl,rfl,rfl⟩:=trodAll_nil r3
 obtain rfl:args=#[v0,v1,v2,v3]:=by cases args;simp_all
 obtain⟨rfl,rfl⟩:=trodVars_none hV
 obtain⟨x0,R0,k0⟩:=open_param Pm.openC_Tree h0 hsz (j:=0) (t:=25) rfl rfl
 have D0:=Pm.prep_agg (agg_cells Try.underlying25 (hval 0 25 v0 rfl rfl) rfl) R0
 obtain⟨a1,rfl,rfl,rfl,wm1⟩:=open_string Try.underlying9 (hval 1 9 v1 rfl rfl) h1
 have w1:a1.size≤140737488351232:=by
  have:=sized_string hsz (j:=1) (t:=9) rfl rfl
  simpa [reachBytes] using this
 obtain⟨a2,rfl,rfl,rfl,wf2⟩:=open_int Try.underlying2 (hval 2 2 v2 rfl rfl) h2
 have w2:-9223372036854775808≤a2∧a2≤9223372036854775807:=by simpa [Lit.wf,IntKind.min,IntKind.max,IntKind.signed,IntKind.bits] using wf2
 obtain⟨a3,rfl,rfl,rfl,wm3⟩:=open_string Try.underlying9 (hval 3 9 v3 rfl rfl) h3
 have w3:a3.size≤140737488351232:=by
  have:=sized_string hsz (j:=3) (t:=9) rfl rfl
  simpa [reachBytes] using this
 clear hA0 hval0
 refine (Pm.Pure.walkF (Pm.law_TreeMap x0 k0 a1.data.toList w1 a2 w2 a3.data.toList w3) (w:=W) trivial [v0,_,_,_] (Pm.psF_cons D0 (Pm.psF_cons (Pm.prep_text a1) (Pm.psF_cons (Pm.rep_int _ _) (Pm.psF_cons (Pm.prep_text a3) Pm.psF_nil))))).mono fun e W' ⟨he,bel⟩=>?_
 subst he
 exact⟨_,rfl,post_true laidOut (by kernel_rfl) Try.underlying4 (by kernel_rfl) rfl hW' rfl bel⟩
theorem proved:Rows.TreeMapSaid:=
 OpenClaim.holds_of_wide 6 Try.f6 rfl rfl rfl rfl rfl rfl rfl ⟨rfl,rfl,rfl,rfl,rfl⟩ rfl rfl rfl rfl rfl (by kernel_rfl) Try.func6 (by kernel_rfl)
  (of_decide_eq_true (by kernel_rfl)) (by unfold Func.isWrapper;first | (rw[if_pos (by decide +kernel)];kernel_rfl) | (rw[if_neg (by decide +kernel)];exact⟨rfl,rfl⟩))
  (fun os started H enc _=>lifted os started H enc)
end Go.Proofs.Ythejollbijglcaa.treeMap
