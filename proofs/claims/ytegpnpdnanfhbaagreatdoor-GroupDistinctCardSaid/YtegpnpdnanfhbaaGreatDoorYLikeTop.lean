/- Match and Pieces -/
import Derived.Test.YtegpnpdnanfhbaaGreatDoorYLikeMatch
namespace Go.Proofs.YtegpnpdnanfhbaaGreatDoor.LikeP
open Go.RowKit K
def patE (p:ByteArray):Int:=if 32<p.size then 2 else if openE false (pcs p)=true then 1 else 0
def matE (p s:ByteArray):Int:=if patE p≠0 then patE p else if 16<s.size then 2 else 0
def pat (p:ByteArray):List Part:=partsE false (pcs p)
noncomputable def matB (p s:ByteArray):Bool:=@decide (matE p s=0∧glob (pat p) (pcs s)) (Classical.propDecidable _)
theorem matB_iff (p s:ByteArray):matB p s=true↔matE p s=0∧glob (pat p) (pcs s):=by
 unfold matB;exact @decide_eq_true_iff _ (Classical.propDecidable _)
theorem patE_cases (p:ByteArray):patE p=0∨patE p=1∨patE p=2:=by unfold patE;(repeat' split)<;>simp
theorem patE_ok {p:ByteArray} (h:patE p=0):p.size≤32∧openE false (pcs p)=false:=by
 unfold patE at h
 split at h
 ·omega
 ·split at h
  ·omega
  ·rename_i h1 h2;exact⟨by omega,by simpa using h2⟩
theorem pat_length {p:ByteArray} (h:p.size≤32):(pat p).length≤32:=by
 have h1:=partsE_length false (pcs p)
 have h2:=pcs_length p
 unfold pat;omega
set_option maxRecDepth 100000 in
set_option maxHeartbeats 1000000 in
theorem read_any (s:ByteArray) (w:World) (hT:Tabs w) :
  Calls Tryz.prog 139 #[.string s] w fun e w'=>
   (∃v,e=.returned (.tuple #[v,.int .i64 (patE s)])∧(patE s=0→w'.ownsRow w.heap.size 182 2 v (pat s).length (partCells (pat s))))∧Below w.heap.size w w':=by
 by_cases h:32<s.size
 ·have HE:Hid (patE s=2):=by show _=_;unfold patE;rw[if_pos h]
  go_enter Tryz.func139,Tryz.ntmps139
  go_wp2
  go_ret2
  rw[HE.out]
  exact⟨⟨_,rfl,fun h=>by cases h⟩,Below.refl _ _⟩
 ·cases ho:openE false (pcs s)
  ·have HE:Hid (patE s=0):=by show _=_;unfold patE;rw[if_neg h,ho];rfl
   have HO:=Lib.hid ho
   clear ho
   go_enter Tryz.func139,Tryz.ntmps139
   go_wp2_with fail
   refine (parts_any s w hT (by omega)).mono ?_
   rintro e w1 ⟨v,rfl,hown,hb⟩
   rw[HO.out]
   go_wp2
   go_ret2
   rw[HE.out]
   exact⟨⟨_,rfl,fun _=>hown⟩,hb⟩
  ·have HE:Hid (patE s=1):=by show _=_;unfold patE;rw[if_neg h,ho];rfl
   have HO:=Lib.hid ho
   clear ho
   go_enter Tryz.func139,Tryz.ntmps139
   go_wp2_with fail
   refine (parts_any s w hT (by omega)).mono ?_
   rintro e w1 ⟨v,rfl,hown,hb⟩
   rw[HO.out]
   go_wp2
   go_ret2
   rw[HE.out]
   exact⟨⟨_,rfl,fun h=>by cases h⟩,hb⟩
set_option maxRecDepth 100000 in
set_option maxHeartbeats 2000000 in
theorem match_any (p s:ByteArray) (w:World) (hT:Tabs w) :
  Calls Tryz.prog 134 #[.string p,.string s] w fun e w'=>e=.returned (.tuple #[.bool (matB p s),.int .i64 (matE p s)])∧Below w.heap.size w w':=by
 have hcs:=patE_cases p
 by_cases h0:patE p=0
 ·have H0:=Lib.hid h0
  by_cases hs:16<s.size
  ·have HE:Hid (matE p s=2):=by show _=_;unfold matE;rw[if_neg (by omega),if_pos hs]
   have HB:Hid (matB p s=false):=by show _=_;rw[Bool.eq_false_iff,Ne,matB_iff,HE.out];omega
   clear h0 hcs
   go_enter Tryz.func134,Tryz.ntmps134
   go_wp2_with fail
   refine (read_any p w hT).mono ?_
   rintro e w1 ⟨⟨v,rfl,hown⟩,hb⟩
   rw[H0.out]
   go_wp2
   go_ret2
   rw[HE.out,HB.out]
   exact⟨rfl,hb⟩
  ·have HE:Hid (matE p s=0):=by show _=_;unfold matE;rw[if_neg (by omega),if_neg hs]
   have hz:s.size*16≤140737488355328:=by omega
   have hpl:=pcs_length s
   have hql:=pat_length (patE_ok h0).1
   clear h0 hcs
   go_enter Tryz.func134,Tryz.ntmps134
   go_wp2_with fail
   refine (read_any p w hT).mono ?_
   rintro e w1 ⟨⟨v,rfl,hown⟩,hb⟩
   have hown:=hown H0.out
   rw[H0.out]
   go_wp2_with fail
   refine (pieces_any s _).mono ?_
   rintro e w2 ⟨rfl,rfl⟩
   go_wp2_with fail
   refine (split_any s w1 (hT.later hb) hz).mono ?_
   rintro e w3 ⟨u,rfl,hown2,hb2⟩
   have hs1:=(Seen.of_own hown).later hb2 (Nat.le_refl _)
   have hs2:=Seen.of_own hown2
   go_wp2_with fail
   refine (matches_any (pat p) (pcs s) v u w3 hs1 hs2 (by omega) (by omega)).mono ?_
   rintro e w4 ⟨⟨b,rfl,hbt⟩,hb3⟩
   have HB:Hid (matB p s=b):=by
    show _=_
    rw[Bool.eq_iff_iff,matB_iff,hbt,HE.out];simp
   clear hbt
   go_wp2
   go_ret2
   rw[HE.out,HB.out]
   exact⟨rfl,chain (chain hb hb2) hb3⟩
 ·have H0:=Lib.hid h0
  have HE:Hid (matE p s=patE p):=by show _=_;unfold matE;rw[if_pos h0]
  have HB:Hid (matB p s=false):=by show _=_;rw[Bool.eq_false_iff,Ne,matB_iff,HE.out];omega
  have h1:(patE p==0)=false:=by simpa using h0
  have h2:(patE p != 0)=true:=by simpa using h0
  clear h0 hcs
  go_enter Tryz.func134,Tryz.ntmps134
  go_wp2_with fail
  refine (read_any p w hT).mono ?_
  rintro e w1 ⟨⟨v,rfl,hown⟩,hb⟩
  clear hown
  generalize patE p=E at *
  go_wp2
  go_ret2
  rw[HE.out,HB.out]
  exact⟨rfl,hb⟩
end Go.Proofs.YtegpnpdnanfhbaaGreatDoor.LikeP
