/- Parts of the proof, one behind the other: PtMend0 PtMend1 PtMend2 PtMend3 PtMend4 PtMend5 PtMend6 PtMend7 PtHand0 PtHand1 PtHand2 PtJoin0 PtMend8. Conditions: none beyond what each theorem says. -/
import Derived.Test.YthejollbijglcaaZ6
set_option linter.unusedVariables false
set_option linter.unusedSimpArgs false
section
namespace Go.Proofs.Ythejollbijglcaa.Pm
open Go.RowKit K
set_option maxRecDepth 100000
set_option maxRecDepth 100000
open Tr
namespace Tr
theorem ro_F {P:Program} {f:FuncId} {i j r:Int} {h:Hp} {K:OpK} {X:Value→Hp→Prop} {es es':List LE} {us us':List UE} (hs:CallS P f [.d (.ptr FK 0),pInt .i64 i,pInt .i64 j] (tIn es us) [] (pInt .i64 r) []) (hn:NmT es us) (F:Nat→Nat)
  (f0:F FK=FK) (f1:F FK1=FK1) (f2:F FK2=FK2) (he:es.map (LE.mv F)=es') (hu:us.map (umv F)=us') (hnd:([FK,FK1,FK2]++namesT es' us').Nodup) (hh:Has h FK FK1 FK2 es' us') (hk:∀rf,K (pInt .i64 r) [] rf) :
  CallP P f [.d (.ptr FK 0),pInt .i64 i,pInt .i64 j] h K X:=by
 refine call_ro hs F hn (map_nd_inj ?_) (fun x hx=>?_) trivial ?_ ?_ hk
 ·rw[List.map_append,← names_mv,he,hu]
  show ([F FK,F FK1,F FK2]++_).Nodup
  rw[f0,f1,f2];exact hnd
 ·simp only[List.mem_cons,List.not_mem_nil,or_false] at hx
  rcases hx with rfl | rfl | rfl
  ·rfl
  ·trivial
  ·trivial
 ·show [PV.d (.ptr (F FK) 0),_,_]=_
  rw[f0];rfl
 ·rw[f0,f1,f2,he,hu];exact hh
theorem ro_id {P:Program} {f:FuncId} {i j r:Int} {h:Hp} {K:OpK} {X:Value→Hp→Prop} {es:List LE} {us:List UE} (hs:CallS P f [.d (.ptr FK 0),pInt .i64 i,pInt .i64 j] (tIn es us) [] (pInt .i64 r) []) (hn:NmT es us)
  (hh:Has h FK FK1 FK2 es us) (hk:∀rf,K (pInt .i64 r) [] rf):CallP P f [.d (.ptr FK 0),pInt .i64 i,pInt .i64 j] h K X:=
 ro_F hs hn id rfl rfl rfl (mv_same fun e _=>rfl) (umv_same fun p _=>rfl) (by have:=tIn_nd (b:=FK) (l:=FK1) (u:=FK2) rfl hn;rwa [tIn_keys] at this) hh hk
theorem wk_all {es:List LE} {us:List UE} (hn:NmT es us) {e:Env} {le:List (Nat×PV)} {lh:Rf} (hlh:∀q∈lh,q∈tIn es us) (he:PLes (fnL (mR (Fl []) (ksF []))) (ksF []) e le) :
  Wk ([FK,FK1,FK2]++namesT es us) e (hpL (tIn es us)) le lh (ksF []):=
 wk_in [] rfl rfl rfl rfl hn (mv_same fun e _=>rfl) (umv_same fun p _=>rfl) (fun k hk=>hn.inn k hk) lh hlh he rfl
theorem ret_all {es:List LE} {us us':List UE} (hn:NmT es us) (hs:us'.Sublist us) (a b:Nat) (hd:nd [FK,a,b]=true) (hf:[FK,a,b].all farK=true) {h:Hp} (hh:Has h FK a b es us') :
  RetS ([FK,FK1,FK2]++namesT es us) h (.tup []) (tOut es us') (.tup []):=by
 obtain⟨G,hG⟩:∃G,G=Fl [(NK1,a),(NK2,b)]:=⟨_,rfl⟩
 have hn':NmT es us':=nm_sub hn (List.Sublist.refl _) hs
 have G1:G NK1=a:=by rw[hG];exact Fl_hit
 have G2:G NK2=b:=by rw[hG,Fl_skip (by decide)];exact Fl_hit
 have GN:∀k,k≠NK1→k≠NK2→G k=k:=fun k h1 h2=>by
  rw[hG]
  refine Fl_no fun p hp=>?_
  simp only[List.mem_cons,List.not_mem_nil,or_false] at hp
  rcases hp with rfl | rfl
  ·exact fun e=>h1 e.symm
  ·exact fun e=>h2 e.symm
 have GnT:∀k∈nT,G k=k:=fun k hk=>by
  have:=nT_big k hk
  exact GN k (by show _≠2000001;omega) (by show _≠2000002;omega)
 have GF:∀k,k=FK∨k=FK1∨k=FK2→G k=k:=fun k hk=>by
  have hk:k=1000000∨k=1000001∨k=1000002:=hk
  exact GN k (by show _≠2000001;omega) (by show _≠2000002;omega)
 have ge:es.map (LE.mv G)=es:=mv_same fun e he=>GnT _ (es_in hn e he)
 have gu:us'.map (umv G)=us':=umv_same fun p hp=>GnT _ (us_in hn' p hp)
 refine ret_has ([FK,FK1,FK2,NK1,NK2]++nT) G (GF _ (.inl rfl)) (us:=us') ?o1 (fun k hk=>?o2) (fun k hk=>?o3) ?o4 rfl
 case o1=>rw[ge,gu,G1,G2];exact hh
 case o2=>
  rcases List.mem_append.1 hk with hk | hk
  ·simp only[List.mem_cons,List.not_mem_nil,or_false] at hk
   exact⟨List.mem_append_left _ (by rcases hk with rfl | rfl | rfl<;>simp),GF k hk⟩
  ·exact⟨List.mem_append_right _ (hn.inn k hk),GnT k (hn.inn k hk)⟩
 case o3=>
  rcases List.mem_append.1 hk with hk | hk
  ·refine List.mem_append_left _ ?_
   simp only[List.mem_cons,List.not_mem_nil,or_false] at hk ⊢
   rcases hk with rfl | rfl | rfl<;>simp
  ·exact List.mem_append_right _ (hn'.inn k hk)
 case o4=>
  rw[← names_mv,ge,gu,G1,G2]
  exact nd_perm (lits:=[FK,a,b]) (names:=namesT es us') (List.Perm.refl _) hd hf hn'.nd hn'.inn
end Tr
theorem s_mendT (P:List UE) (k0:Nat) (v:List Nat) (at_:Nat) (es:List LE) (hn:NmT es (P++[(k0,v)])) (hok:∀e∈es,e.ok) (hl:P.length≤20) (hel:es.length≤1000) (hat:at_<v.length) (hv:v.length≤64) (hm:∀n∈v,1≤n∧n≤64) :
  CallS Try.prog 44 [.d (.ptr FK 0),pInt .i64 ((P.length+1:Nat):Int),pInt .i64 at_] [] (tIn es (P++[(k0,v)])) (.tup [])
   (tOut es (if v.getD at_ 0=1 then P else P++[(k0,v)])):=by
 obtain⟨us,hus⟩:∃us,us=P++[(k0,v)]:=⟨_,rfl⟩
 rw[← hus] at hn ⊢
 have husl:us.length=P.length+1:=by rw[hus,List.length_append];rfl
 have hg:v.getD at_ 0=v[at_]:=by rw[List.getD_eq_getElem?_getD,List.getElem?_eq_getElem hat];rfl
 have m1:=hm _ (List.getElem_mem hat)
 have sz:=s_sizeU hn hok P.length (by omega) v (by rw[hus,List.map_append];exact get_mid2 (by rw[List.length_map])) at_ hat
 refine callS_sem Try.func44 (by rfl) rfl (by kernel_rfl) (by rfl) ([FK,FK1,FK2]++namesT es us) (fun k hk=>by rw[List.nil_append,tIn_keys] at hk;exact hk) ?_
 refine Smc.cut (le:=[(0,.d (.ptr FK 0)),(1,pInt .i64 ((P.length+1:Nat):Int)),(2,pInt .i64 at_)])
  (lh:=[(FK,.box 61 [.arr FK1 28 1 0 es.length,.arr FK2 54 1 0 (P.length+1)]),(FK1,.darr 28 1 (es.map LE.row)),(FK2,.darr 54 1 (us.map urow))]++famT es us) (m:=ksF [])
  (wk_all hn (fun q hq=>by rw[← husl] at hq;exact hq) ⟨⟨rfl,rfl,rfl⟩,.inl rfl,.inl rfl,trivial⟩) ?_
 have hR:=nm_fam hn
 have look:∀q∈famT es us,hpL ([(FK,.box 61 [.arr FK1 28 1 0 es.length,.arr FK2 54 1 0 (P.length+1)]),(FK1,.darr 28 1 (es.map LE.row)),(FK2,.darr 54 1 (us.map urow))]++famT es us) q.1=some q.2:=fun q hq=>hR.past rfl hq
 refine Smc.seqs ?_
 refine Smc.seq rfl ?_
 ((conv=>whnf);repeat' ((first|(with_reducible first|apply a_|apply b_|apply c_)|((with_reducible first|apply d_|apply e_|apply f_|apply g_);focus first|omega|(simp only[q_]<;>omega))|((with_reducible first|apply i_|apply h_);focus first|omega|(simp only[q_]<;>omega))|((with_reducible apply h_);focus first|decide|kernel_rfl)|refine s_ (by decide) ?_|refine t_ (by decide) ?_|with_reducible first|apply l_|apply m_|apply n_|apply o_|refine p_ (fun _=>?_) (fun _=>?_))<;>(conv=>whnf)))
 refine Smc.cond rfl (fun _=>?_) (fun hb=>?_)
 ·refine Smc.seqs ?_
  refine Smc.seq rfl ?_
  ((conv=>whnf);repeat' ((first|(with_reducible first|apply a_|apply b_|apply c_)|((with_reducible first|apply d_|apply e_|apply f_|apply g_);focus first|omega|(simp only[q_]<;>omega))|((with_reducible first|apply i_|apply h_);focus first|omega|(simp only[q_]<;>omega))|((with_reducible apply h_);focus first|decide|kernel_rfl)|refine s_ (by decide) ?_|refine t_ (by decide) ?_|with_reducible first|apply l_|apply m_|apply n_|apply o_|refine p_ (fun _=>?_) (fun _=>?_))<;>(conv=>whnf)))
  refine ro_id sz hn (has_of ?_ rfl rfl (fun e he=>?_) (fun p hp=>?_)) (fun rf=>?_)
  ·rw[husl];rfl
  ·have hm:e.fam∈famT es us:=List.mem_append_left _ (List.mem_map.2 ⟨e,he,rfl⟩)
   have hb:=(hR.keys e.fam hm).1
   repeat refine app_fam rfl hb ?_
   exact look e.fam hm
  ·have hm:ufam p∈famT es us:=List.mem_append_right _ (List.mem_map.2 ⟨p,hp,rfl⟩)
   have hb:=(hR.keys (ufam p) hm).1
   repeat refine app_fam rfl hb ?_
   exact look (ufam p) hm
  ((conv=>whnf);repeat' ((first|(with_reducible first|apply a_|apply b_|apply c_)|((with_reducible first|apply d_|apply e_|apply f_|apply g_);focus first|omega|(simp only[q_]<;>omega))|((with_reducible first|apply i_|apply h_);focus first|omega|(simp only[q_]<;>omega))|((with_reducible apply h_);focus first|decide|kernel_rfl)|refine s_ (by decide) ?_|refine t_ (by decide) ?_|with_reducible first|apply l_|apply m_|apply n_|apply o_|refine p_ (fun _=>?_) (fun _=>?_))<;>(conv=>whnf)))
  ·rename_i hv1
   refine Smc.cond rfl (fun ht=>?_) (fun ht=>?_)
   ·refine Smc.of rfl ?_
    ((conv=>whnf);repeat' ((first|(with_reducible first|apply a_|apply b_|apply c_)|((with_reducible first|apply d_|apply e_|apply f_|apply g_);focus first|omega|(simp only[q_]<;>omega))|((with_reducible first|apply i_|apply h_);focus first|omega|(simp only[q_]<;>omega))|((with_reducible apply h_);focus first|decide|kernel_rfl)|refine s_ (by decide) ?_|refine t_ (by decide) ?_|with_reducible first|apply l_|apply m_|apply n_|apply o_|refine p_ (fun _=>?_) (fun _=>?_))<;>(conv=>whnf)))
    have hP:us.map urow=P.map urow++[urow (k0,v)]:=by rw[hus,List.map_append];rfl
    refine Smc.trim (k:=FK2) (e1:=54) (sz:=1) (rows:=us.map urow) P.length rfl ?_
    refine Smc.of rfl ?_
    ((conv=>whnf);repeat' ((first|(with_reducible first|apply a_|apply b_|apply c_)|((with_reducible first|apply d_|apply e_|apply f_|apply g_);focus first|omega|(simp only[q_]<;>omega))|((with_reducible first|apply i_|apply h_);focus first|omega|(simp only[q_]<;>omega))|((with_reducible apply h_);focus first|decide|kernel_rfl)|refine s_ (by decide) ?_|refine t_ (by decide) ?_|with_reducible first|apply l_|apply m_|apply n_|apply o_|refine p_ (fun _=>?_) (fun _=>?_))<;>(conv=>whnf)))
    rw[if_pos (by rw[hg];omega)]
    have hPs:P.Sublist us:=by rw[hus];exact List.sublist_append_left _ _
    refine ret_all hn hPs FK1 FK2 rfl rfl (has_of ?_ rfl ?_ (fun e he=>?_) (fun p hp=>?_))
    ·rw[show (((P.length+1:Nat):Int) - 1).toNat=P.length by omega];rfl
    ·refine congrArg (fun r=>some (HB.darr 54 1 r)) ?_
     rw[hP];exact List.take_left' (List.length_map _)
    ·have hm:e.fam∈famT es us:=List.mem_append_left _ (List.mem_map.2 ⟨e,he,rfl⟩)
     have hb:=(hR.keys e.fam hm).1
     repeat refine app_fam rfl hb ?_
     refine (upd_ne _ _ ?_).trans ?_
     ·have:=nT_big _ (es_in hn e he)
      show e.k≠1000002
      omega
     repeat refine app_fam rfl hb ?_
     exact look e.fam hm
    ·have hm:ufam p∈famT es us:=List.mem_append_right _ (List.mem_map.2 ⟨p,by rw[hus];exact List.mem_append_left _ hp,rfl⟩)
     have hb:=(hR.keys (ufam p) hm).1
     repeat refine app_fam rfl hb ?_
     refine (upd_ne _ _ ?_).trans ?_
     ·have:=nT_big _ (us_in hn p (by rw[hus];exact List.mem_append_left _ hp))
      show p.1≠1000002
      omega
     repeat refine app_fam rfl hb ?_
     exact look (ufam p) hm
   ·exfalso
    have:=of_decide_eq_false ht
    omega
  ·rename_i hv1
   refine Smc.cond rfl (fun ht=>?_) (fun ht=>?_)
   ·cases ht
   ·refine Smc.of rfl ?_
    ((conv=>whnf);repeat' ((first|(with_reducible first|apply a_|apply b_|apply c_)|((with_reducible first|apply d_|apply e_|apply f_|apply g_);focus first|omega|(simp only[q_]<;>omega))|((with_reducible first|apply i_|apply h_);focus first|omega|(simp only[q_]<;>omega))|((with_reducible apply h_);focus first|decide|kernel_rfl)|refine s_ (by decide) ?_|refine t_ (by decide) ?_|with_reducible first|apply l_|apply m_|apply n_|apply o_|refine p_ (fun _=>?_) (fun _=>?_))<;>(conv=>whnf)))
    refine Smc.of rfl ?_
    ((conv=>whnf);repeat' ((first|(with_reducible first|apply a_|apply b_|apply c_)|((with_reducible first|apply d_|apply e_|apply f_|apply g_);focus first|omega|(simp only[q_]<;>omega))|((with_reducible first|apply i_|apply h_);focus first|omega|(simp only[q_]<;>omega))|((with_reducible apply h_);focus first|decide|kernel_rfl)|refine s_ (by decide) ?_|refine t_ (by decide) ?_|with_reducible first|apply l_|apply m_|apply n_|apply o_|refine p_ (fun _=>?_) (fun _=>?_))<;>(conv=>whnf)))
    rw[if_neg (by rw[hg];omega)]
    refine ret_all hn (List.Sublist.refl _) FK1 FK2 rfl rfl (has_of ?_ rfl rfl (fun e he=>?_) (fun p hp=>?_))
    ·rw[husl];rfl
    ·have hm:e.fam∈famT es us:=List.mem_append_left _ (List.mem_map.2 ⟨e,he,rfl⟩)
     have hb:=(hR.keys e.fam hm).1
     repeat refine app_fam rfl hb ?_
     exact look e.fam hm
    ·have hm:ufam p∈famT es us:=List.mem_append_right _ (List.mem_map.2 ⟨p,hp,rfl⟩)
     have hb:=(hR.keys (ufam p) hm).1
     repeat refine app_fam rfl hb ?_
     exact look (ufam p) hm
 ·exact absurd rfl (of_decide_eq_false hb)
end Go.Proofs.Ythejollbijglcaa.Pm
end
section
namespace Go.Proofs.Ythejollbijglcaa.Pm
open Go.RowKit K
set_option maxRecDepth 100000
set_option maxRecDepth 100000
open Tr
theorem Smc.via {P:Program} {nt:Nat} {fk:List Nat} {X:XT} {x y:Code} {e:Env} {h:Hp} {n:List Nat} {Q:Cont} {le:List (Nat×PV)} {lh:List (Nat×HB)} {m:List Nat} (H1:Smc P nt fk X x e h n (seqK (fun e h _=>Wk fk e h le lh m) Q)) (H2:Smc P nt fk X y (ofL le) (hpL lh) m Q):Smc P nt fk X (.seq x y) e h n Q:=
 ⟨fun c hfk hc σ a w hs hf=>by
  refine wp_seq (wp_mono (H1.out' hfk hc hs hf) ?_)
  intro ex a' w' hq
  cases ex with
  | normal=>
   obtain⟨e',h',n',σ',hq,hs',hf'⟩:=hq
   exact (Smc.cut hq H2).out' hfk hc hs' hf'
  | exit id=>exact hq
  | goto l=>exact hq
  | ret=>exact hq
  | panic ch=>exact hq
  | outgrown=>exact hq⟩
namespace Tr
theorem ro_k1 {P:Program} {f:FuncId} {i j r:Int} {h:Hp} {K:OpK} {X:Value→Hp→Prop} {es:List LE} {A B:List UE} {k1:Nat} {u:List Nat} (hs:CallS P f [.d (.ptr FK 0),pInt .i64 i,pInt .i64 j] (tIn es (A++(k1,u)::B)) [] (pInt .i64 r) [])
  (hn:NmT es (A++(k1,u)::B)) (hh:Has h FK FK1 FK2 es (A++(900,u)::B)) (hk:∀rf,K (pInt .i64 r) [] rf):CallP P f [.d (.ptr FK 0),pInt .i64 i,pInt .i64 j] h K X:=by
 have hnP:NmT es (A++B):=nm_sub hn (List.Sublist.refl _) ((List.Sublist.refl A).append (List.sublist_cons_self _ _))
 have hk1:k1∈nT:=us_in hn (k1,u) (List.mem_append_right _ List.mem_cons_self)
 have hk1n:k1∉namesT es (A++B):=by
  have hp:(namesT es (A++(k1,u)::B)).Perm (k1::namesT es (A++B)):=List.perm_iff_count.2 fun a=>by
   simp only[namesT,List.count_append,List.map_append,List.map_cons,List.count_cons]
   omega
  exact (List.nodup_cons.1 (hp.nodup_iff.1 hn.nd)).1
 have hb:=nT_big k1 hk1
 have hF:∀k,k≠k1→Fl [(k1,900)] k=k:=fun k hk=>Fl_no fun p hp=>by
  rw[List.mem_singleton] at hp
  subst hp
  exact fun e=>hk e.symm
 have hN:∀k∈namesT es (A++B),Fl [(k1,900)] k=k:=fun k hk=>hF k fun e=>hk1n (by rw[← e];exact hk)
 refine ro_F hs hn (Fl [(k1,900)]) (hF _ (by show 1000000≠k1;omega)) (hF _ (by show 1000001≠k1;omega)) (hF _ (by show 1000002≠k1;omega)) (mv_same fun e he=>hN _ (List.mem_append_left _ (List.mem_map.2 ⟨e,he,rfl⟩))) ?_ ?_ hh hk
 ·rw[List.map_append,List.map_cons,umv_same fun p hp=>hN _ (List.mem_append_right _ (List.mem_map.2 ⟨p,List.mem_append_left _ hp,rfl⟩)),umv_same fun p hp=>hN _ (List.mem_append_right _ (List.mem_map.2 ⟨p,List.mem_append_right _ hp,rfl⟩))]
  show A++(Fl [(k1,900)] k1,u)::B=_
  rw[Fl_hit]
 ·refine nd_perm (lits:=[FK,FK1,FK2,900]) (names:=namesT es (A++B)) (List.perm_iff_count.2 fun q=>?_) rfl rfl hnP.nd hnP.inn
  simp only[namesT,List.count_append,List.map_append,List.map_cons,List.map_nil,List.count_cons,List.count_nil]
  omega
theorem side_int {u:List Nat} {at_:Nat} (hu:∀n∈u,2≤n) (hat:at_<u.sum) (e:at_+1=(u.take (nodeF u at_+1)).sum):1≤at_:=by
 cases u with
 | nil=>simp at hat
 | cons a u=>
  have:=hu a List.mem_cons_self
  rw[List.take_succ_cons,List.sum_cons] at e
  omega
end Tr
set_option maxHeartbeats 4000000 in
theorem s_mendA (es:List LE) (P Q:List UE) (k1:Nat) (u:List Nat) (at_ x:Nat) (c:Nat→Nat) (hn:NmT es (P++(k1,u)::Q)) (hok:∀e∈es,e.ok) (hx:x∈nT) (hxn:x∉namesT es (P++(k1,u)::Q)) (hl:P.length+1+Q.length≤20) (hel:es.length≤1000)
  (hsz:CallS Try.prog 63 [.d (.ptr FK 0),pInt .i64 P.length,pInt .i64 at_] (tIn es (P++(k1,u)::Q)) [] (pInt .i64 (c at_)) []) (h2:2≤c at_) :
  CallS Try.prog 44 [.d (.ptr FK 0),pInt .i64 P.length,pInt .i64 at_] [] (tIn es (P++(k1,u)::Q)) (.tup []) (tOut es (P++(x,u)::Q)):=by
 have hnP:NmT es (P++Q):=nm_sub hn (List.Sublist.refl _) ((List.Sublist.refl P).append (List.sublist_cons_self _ _))
 refine callS_sem Try.func44 (by rfl) rfl (by kernel_rfl) (by rfl) ([FK,FK1,FK2]++namesT es (P++(k1,u)::Q)) (fun k hk=>by rw[List.nil_append,tIn_keys] at hk;exact hk) ?_
 refine Smc.cut (le:=[(0,.d (.ptr FK 0)),(1,pInt .i64 P.length),(2,pInt .i64 at_)]) (m:=ksF [(900,k1)]) (wk_lvl hn (P.length+1+Q.length) rfl ⟨⟨rfl,rfl,rfl⟩,.inl rfl,.inl rfl,trivial⟩) ?_
 have hR:=nm_fam hnP
 have look:∀q∈famT es (P++Q),hpL ([(FK,.box 61 [.arr FK1 28 1 0 es.length,.arr FK2 54 1 0 (P.length+1+Q.length)]),(FK1,.darr 28 1 (es.map LE.row)),(FK2,.darr 54 1 ((P++(900,u)::Q).map urow)),(900,lvlH u)]++famT es (P++Q)) q.1=some q.2:=fun q hq=>hR.past rfl hq
 have hHas:Has (hpL ([(FK,.box 61 [.arr FK1 28 1 0 es.length,.arr FK2 54 1 0 (P.length+1+Q.length)]),(FK1,.darr 28 1 (es.map LE.row)),(FK2,.darr 54 1 ((P++(900,u)::Q).map urow)),(900,lvlH u)]++famT es (P++Q))) FK FK1 FK2 es (P++(900,u)::Q):=by
  refine has_of ?_ rfl rfl (fun e he=>look e.fam (List.mem_append_left _ (List.mem_map.2 ⟨e,he,rfl⟩))) (fun p hp=>?_)
  ·rw[show (P++(900,u)::Q).length=P.length+1+Q.length by rw[List.length_append,List.length_cons];omega];rfl
  ·have hp':p=(900,u)∨p∈P++Q:=by
    simp only[List.mem_append,List.mem_cons] at hp ⊢
    rcases hp with h | h | h
    ·exact .inr (.inl h)
    ·exact .inl h
    ·exact .inr (.inr h)
   rcases hp' with rfl | hp
   ·rfl
   ·exact look (ufam p) (List.mem_append_right _ (List.mem_map.2 ⟨p,hp,rfl⟩))
 refine Smc.seq rfl ?_
 ((conv=>whnf);repeat' ((first|(with_reducible first|apply a_|apply b_|apply c_)|((with_reducible first|apply d_|apply e_|apply f_|apply g_);focus first|omega|(simp only[q_]<;>omega))|((with_reducible first|apply i_|apply h_);focus first|omega|(simp only[q_]<;>omega))|((with_reducible apply h_);focus first|decide|kernel_rfl)|refine s_ (by decide) ?_|refine t_ (by decide) ?_|with_reducible first|apply l_|apply m_|apply n_|apply o_|refine p_ (fun _=>?_) (fun _=>?_))<;>(conv=>whnf)))
 all_goals first
  | (exfalso;omega)
  | skip
 refine Smc.seq rfl ?_
 ((conv=>whnf);repeat' ((first|(with_reducible first|apply a_|apply b_|apply c_)|((with_reducible first|apply d_|apply e_|apply f_|apply g_);focus first|omega|(simp only[q_]<;>omega))|((with_reducible first|apply i_|apply h_);focus first|omega|(simp only[q_]<;>omega))|((with_reducible apply h_);focus first|decide|kernel_rfl)|refine s_ (by decide) ?_|refine t_ (by decide) ?_|with_reducible first|apply l_|apply m_|apply n_|apply o_|refine p_ (fun _=>?_) (fun _=>?_))<;>(conv=>whnf)))
 refine ro_k1 hsz hn hHas (fun rf=>?_)
 ((conv=>whnf);repeat' ((first|(with_reducible first|apply a_|apply b_|apply c_)|((with_reducible first|apply d_|apply e_|apply f_|apply g_);focus first|omega|(simp only[q_]<;>omega))|((with_reducible first|apply i_|apply h_);focus first|omega|(simp only[q_]<;>omega))|((with_reducible apply h_);focus first|decide|kernel_rfl)|refine s_ (by decide) ?_|refine t_ (by decide) ?_|with_reducible first|apply l_|apply m_|apply n_|apply o_|refine p_ (fun _=>?_) (fun _=>?_))<;>(conv=>whnf)))
 exact ret_lvl hn hx hxn FK1 FK2 900 rfl rfl hHas
end Go.Proofs.Ythejollbijglcaa.Pm
end
section
namespace Go.Proofs.Ythejollbijglcaa.Pm
open Go.RowKit K
set_option maxRecDepth 100000
set_option maxRecDepth 100000
open Tr
namespace Tr
theorem wk_keep {fk:List Nat} {es:List LE} {P Q:List UE} {k1:Nat} {u:List Nat} (hn:NmT es (P++(k1,u)::Q)) (N:Nat) (hN:N=P.length+1+Q.length) (hfk:∀k∈fk,k∈ksF [(900,k1)]) {e:Env} {h:Hp} {le:List (Nat×PV)} (hh:Has h FK FK1 FK2 es (P++(900,u)::Q)) (he:PLes (fnL (mR (Fl []) (ksF [(900,k1)]))) (ksF [(900,k1)]) e le) :
  Wk fk e h le ([(FK,.box 61 [.arr FK1 28 1 0 es.length,.arr FK2 54 1 0 N]),(FK1,.darr 28 1 (es.map LE.row)),(FK2,.darr 54 1 ((P++(900,u)::Q).map urow)),(900,lvlH u)]++famT es (P++Q)) (ksF [(900,k1)]):=by
 have hnP:NmT es (P++Q):=nm_sub hn (List.Sublist.refl _) ((List.Sublist.refl P).append (List.sublist_cons_self _ _))
 have m1:es.map (LE.mv (Fl []))=es:=mv_same fun e _=>rfl
 have m2:(P++(900,u)::Q).map (umv (Fl []))=P++(900,u)::Q:=umv_same fun p _=>rfl
 refine wk_sub (wk_has (near:=[]) (Fl []) (b:=FK) (l:=FK1) (u:=FK2) (es:=es) (us:=P++(900,u)::Q) (by rw[m1,m2];exact hh) (fun k hk=>⟨hfk k hk,rfl⟩) (fun k hk=>?_) ?_ (fun q hq=>(by cases hq)) he) (fun q hq=>?_)
 ·simp only[namesT,List.mem_append,List.map_append,List.map_cons,List.mem_cons] at hk
  rcases hk with hk | hk | hk | rfl | hk
  ·exact List.mem_append_left _ (by simpa using hk)
  ·exact List.mem_append_right _ (List.mem_append_right _ (hnP.inn k (List.mem_append_left _ hk)))
  ·exact List.mem_append_right _ (List.mem_append_right _ (hnP.inn k (List.mem_append_right _ (by rw[List.map_append];exact List.mem_append_left _ hk))))
  ·exact List.mem_append_right _ (List.mem_append_left _ (show 900∈[900] by decide))
  ·exact List.mem_append_right _ (List.mem_append_right _ (hnP.inn k (List.mem_append_right _ (by rw[List.map_append];exact List.mem_append_right _ hk))))
 ·rw[← names_mv,m1,m2]
  refine nd_perm (lits:=[FK,FK1,FK2,900]) (names:=namesT es (P++Q)) (List.perm_iff_count.2 fun q=>?_) rfl rfl hnP.nd hnP.inn
  show List.count q ([]++([FK,FK1,FK2]++namesT es (P++(900,u)::Q)))=_
  simp only[namesT,List.count_append,List.map_append,List.map_cons,List.map_nil,List.count_cons,List.count_nil]
  omega
 ·rcases List.mem_append.1 hq with hq | hq
  ·simp only[List.mem_cons,List.not_mem_nil,or_false] at hq
   rcases hq with h | h | h | h
   ·exact List.mem_append_right _ (List.mem_append_left _ (by rw[h,show N=(P++(900,u)::Q).length by rw[hN];simp;omega];exact List.mem_cons_self))
   ·exact List.mem_append_right _ (List.mem_append_left _ (by rw[h];simp))
   ·exact List.mem_append_right _ (List.mem_append_left _ (by rw[h];simp))
   ·refine List.mem_append_right _ (List.mem_append_right _ (List.mem_append_right _ ?_))
    rw[h,List.map_append]
    exact List.mem_append_right _ List.mem_cons_self
  ·refine List.mem_append_right _ (List.mem_append_right _ ?_)
   rcases List.mem_append.1 hq with hq | hq
   ·exact List.mem_append_left _ hq
   ·refine List.mem_append_right _ ?_
    rw[List.map_append] at hq ⊢
    rcases List.mem_append.1 hq with hq | hq
    ·exact List.mem_append_left _ hq
    ·exact List.mem_append_right _ (List.mem_cons_of_mem _ hq)
def FX (y:Nat) (N:List Nat) (k:Nat):Nat:=if k=y then 900 else if k∈N then k else if k∈nT then k+20000 else if k=NK1 then 93 else if k=NK2 then 94 else k
theorem FX_y (y:Nat) (N:List Nat):FX y N y=900:=if_pos rfl
theorem FX_n {y k:Nat} {N:List Nat} (h:k≠y) (hk:k∈N):FX y N k=k:=by unfold FX;rw[if_neg h,if_pos hk]
theorem FX_new {y k:Nat} {N:List Nat} (h:k≠y) (hk:k∉N) (ht:k∈nT):FX y N k=k+20000:=by unfold FX;rw[if_neg h,if_neg hk,if_pos ht]
theorem FX_f {y k:Nat} {N:List Nat} (hy:y∈nT) (hN:∀k∈N,k∈nT) (h1:k∉nT) (h2:k≠NK1) (h3:k≠NK2):FX y N k=k:=by
 unfold FX
 rw[if_neg (fun e=>h1 (by rw[e];exact hy)),if_neg (fun e=>h1 (hN k e)),if_neg h1,if_neg h2,if_neg h3]
theorem FX_1 {y:Nat} {N:List Nat} (hy:y∈nT) (hN:∀k∈N,k∈nT):FX y N NK1=93:=by
 have h1:NK1∉nT:=fun h=>by have:=(nT_big _ h).2;have h2:NK1=2000001:=rfl;omega
 unfold FX
 rw[if_neg (fun e=>h1 (by rw[e];exact hy)),if_neg (fun e=>h1 (hN _ e)),if_neg h1,if_pos rfl]
theorem FX_2 {y:Nat} {N:List Nat} (hy:y∈nT) (hN:∀k∈N,k∈nT):FX y N NK2=94:=by
 have h1:NK2∉nT:=fun h=>by have:=(nT_big _ h).2;have h2:NK2=2000002:=rfl;omega
 unfold FX
 rw[if_neg (fun e=>h1 (by rw[e];exact hy)),if_neg (fun e=>h1 (hN _ e)),if_neg h1,if_neg (by decide),if_pos rfl]
theorem far_nT {k:Nat} (h:7000≤k):k∉nT:=fun hm=>by have:=(nT_big k hm).2;omega
theorem FX_val {y:Nat} {N:List Nat} (hy:y∈nT) (hN:∀k∈N,k∈nT) {k:Nat} (hk:k∈[FK,FK1,FK2,NK1,NK2]∨k∈nT) :
  (k=y∧FX y N k=900)∨(k≠y∧1000≤k∧k<7000∧(FX y N k=k∨FX y N k=k+20000)∧(FX y N k=k↔k∈N))∨(k=NK1∧FX y N k=93)∨(k=NK2∧FX y N k=94)∨(1000000≤k∧FX y N k=k):=by
 rcases hk with hk | hk
 ·simp only[List.mem_cons,List.not_mem_nil,or_false] at hk
  rcases hk with rfl | rfl | rfl | rfl | rfl
  ·exact .inr (.inr (.inr (.inr ⟨by decide,FX_f hy hN (far_nT (by decide)) (by decide) (by decide)⟩)))
  ·exact .inr (.inr (.inr (.inr ⟨by decide,FX_f hy hN (far_nT (by decide)) (by decide) (by decide)⟩)))
  ·exact .inr (.inr (.inr (.inr ⟨by decide,FX_f hy hN (far_nT (by decide)) (by decide) (by decide)⟩)))
  ·exact .inr (.inr (.inl ⟨rfl,FX_1 hy hN⟩))
  ·exact .inr (.inr (.inr (.inl ⟨rfl,FX_2 hy hN⟩)))
 ·have hb:=nT_big k hk
  by_cases h1:k=y
  ·exact .inl ⟨h1,by rw[h1];exact FX_y y N⟩
  ·by_cases h2:k∈N
   ·exact .inr (.inl ⟨h1,hb.1,hb.2,.inl (FX_n h1 h2),⟨fun _=>h2,fun _=>FX_n h1 h2⟩⟩)
   ·exact .inr (.inl ⟨h1,hb.1,hb.2,.inr (FX_new h1 h2 hk),⟨fun e=>by rw[FX_new h1 h2 hk] at e;omega,fun e=>absurd e h2⟩⟩)
theorem FX_inj {y:Nat} {N:List Nat} (hy:y∈nT) (hN:∀k∈N,k∈nT) {a b:Nat} (ha:a∈[FK,FK1,FK2,NK1,NK2]∨a∈nT) (hb:b∈[FK,FK1,FK2,NK1,NK2]∨b∈nT) (e:FX y N a=FX y N b):a=b:=by
 rcases FX_val hy hN ha with ⟨a1,a2⟩ | ⟨a1,a2,a3,a4,_⟩ | ⟨a1,a2⟩ | ⟨a1,a2⟩ | ⟨a1,a2⟩<;>rcases FX_val hy hN hb with ⟨b1,b2⟩ | ⟨b1,b2,b3,b4,_⟩ | ⟨b1,b2⟩ | ⟨b1,b2⟩ | ⟨b1,b2⟩<;>omega
theorem nm_ren {es:List LE} {A B:List UE} {k x:Nat} {u:List Nat} (w:List Nat) (h:NmT es (A++(k,u)::B)) (hx:x∈nT) (hxn:x∉namesT es (A++(k,u)::B)):NmT es (A++(x,w)::B):=
 nm_ins w (nm_sub h (List.Sublist.refl _) ((List.Sublist.refl A).append (List.sublist_cons_self _ _))) hx fun hm=>hxn (by
  simp only[namesT,List.mem_append,List.map_append,List.map_cons,List.mem_cons] at hm ⊢
  rcases hm with h | h | h
  ·exact .inl h
  ·exact .inr (.inl h)
  ·exact .inr (.inr (.inr h)))
theorem nm_out {es:List LE} {A B:List UE} {k:Nat} {u:List Nat} (h:NmT es (A++(k,u)::B)):k∉namesT es (A++B):=by
 have hp:(namesT es (A++(k,u)::B)).Perm (k::namesT es (A++B)):=List.perm_iff_count.2 fun a=>by
  simp only[namesT,List.count_append,List.map_append,List.map_cons,List.count_cons]
  omega
 exact (List.nodup_cons.1 (hp.nodup_iff.1 h.nd)).1
theorem tree_k1 {P0:Program} {f:FuncId} {args:List PV} {h:Hp} {K:OpK} {X:Value→Hp→Prop} {es esH:List LE} {P PH Q QH:List UE} {k1:Nat} {u uH:List Nat} (hs:CallS P0 f (.d (.ptr FK 0)::args) [] (tIn es (P++(k1,u)::Q)) (.tup []) (tOut esH (PH++(k1,uH)::QH)))
  (hn:NmT es (P++(k1,u)::Q)) (hnH:NmT esH (PH++(k1,uH)::QH)) (ha:∀x∈args,∃n,x=pInt .i64 n) (hh:Has h FK FK1 FK2 es (P++(900,u)::Q)) {N:List Nat} (hN:N=namesT es (P++(k1,u)::Q))
  (hk:∀(δ:Dl) (rf:Rf),(∀ks:List Nat,(ks.all fun x=>Nat.blt x 13000||Nat.ble 1000000 x)=true→ksHas 93 ks=false→ksHas 94 ks=false→∀p∈δ,rfHas p.1 rf=true∨ksHas p.1 ks=false)→
   (∀h,Has (Dl.app h δ) FK 93 94 (esH.map (LE.mv (FX k1 N))) ((PH++(k1,uH)::QH).map (umv (FX k1 N))))→K (.tup []) δ rf):CallP P0 f (.d (.ptr FK 0)::args) h K X:=by
 have hk1:k1∈nT:=us_in hn (k1,u) (List.mem_append_right _ List.mem_cons_self)
 have hNn:∀k∈N,k∈nT:=fun k hk=>hn.inn k (by rw[hN] at hk;exact hk)
 have hk1n:=nm_out hn
 have hsub:∀k∈namesT es (P++Q),k∈N∧k≠k1:=fun k hk=>⟨by
  rw[hN]
  simp only[namesT,List.mem_append,List.map_append,List.map_cons,List.mem_cons] at hk ⊢
  rcases hk with h | h | h
  ·exact .inl h
  ·exact .inr (.inl h)
  ·exact .inr (.inr (.inr h)),fun e=>hk1n (by rw[← e];exact hk)⟩
 obtain⟨F,hF⟩:∃F,F=FX k1 N:=⟨_,rfl⟩
 have Ff:∀k,k=FK∨k=FK1∨k=FK2→F k=k:=fun k hk=>by
  have hk:k=1000000∨k=1000001∨k=1000002:=hk
  rw[hF]
  exact FX_f hk1 hNn (far_nT (by omega)) (by show k≠2000001;omega) (by show k≠2000002;omega)
 have F1:F NK1=93:=by rw[hF];exact FX_1 hk1 hNn
 have F2:F NK2=94:=by rw[hF];exact FX_2 hk1 hNn
 have Fk:F k1=900:=by rw[hF];exact FX_y _ _
 have Fn:∀k∈namesT es (P++Q),F k=k:=fun k hk=>by rw[hF];exact FX_n (hsub k hk).2 (hsub k hk).1
 have ge:es.map (LE.mv F)=es:=mv_same fun e he=>Fn _ (List.mem_append_left _ (List.mem_map.2 ⟨e,he,rfl⟩))
 have gu:(P++(k1,u)::Q).map (umv F)=P++(900,u)::Q:=by
  rw[List.map_append,List.map_cons,umv_same fun p hp=>Fn _ (List.mem_append_right _ (List.mem_map.2 ⟨p,List.mem_append_left _ hp,rfl⟩)),umv_same fun p hp=>Fn _ (List.mem_append_right _ (List.mem_map.2 ⟨p,List.mem_append_right _ hp,rfl⟩))]
  show P++(F k1,u)::Q=_
  rw[Fk]
 obtain⟨Z,hZ⟩:∃Z,Z=esH.map (LE.mv F):=⟨_,rfl⟩
 obtain⟨Y,hY⟩:∃Y,Y=(PH++(k1,uH)::QH).map (umv F):=⟨_,rfl⟩
 have hZY:namesT Z Y=(namesT esH (PH++(k1,uH)::QH)).map F:=by rw[hZ,hY,names_mv]
 have okH:∀k∈[FK,FK1,FK2,NK1,NK2]++(namesT es (P++(k1,u)::Q)++namesT esH (PH++(k1,uH)::QH)),k∈[FK,FK1,FK2,NK1,NK2]∨k∈nT:=fun k hk=>by
  rcases List.mem_append.1 hk with hk | hk
  ·exact .inl hk
  ·rcases List.mem_append.1 hk with hk | hk
   ·exact .inr (hn.inn k hk)
   ·exact .inr (hnH.inn k hk)
 have hYd:((nearT FK 93 94 Z Y++famT Z Y).map Prod.fst).Nodup:=by
  rw[tIn_keys,hZY]
  have h0:([FK,NK1,NK2]++namesT esH (PH++(k1,uH)::QH)).Nodup:=by
   have:=tIn_nd (b:=FK) (l:=NK1) (u:=NK2) rfl hnH
   rwa [tIn_keys] at this
  have okO:∀k∈[FK,NK1,NK2]++namesT esH (PH++(k1,uH)::QH),k∈[FK,FK1,FK2,NK1,NK2]∨k∈nT:=fun k hk=>by
   rcases List.mem_append.1 hk with hk | hk
   ·left
    simp only[List.mem_cons,List.not_mem_nil,or_false] at hk ⊢
    rcases hk with rfl | rfl | rfl<;>simp
   ·exact .inr (hnH.inn k hk)
  have h1:=nodup_map (F:=F) h0 (fun a ha b hb e=>FX_inj hk1 hNn (okO a ha) (okO b hb) (by rw[← hF];exact e))
  rw[List.map_append] at h1
  have e:[FK,NK1,NK2].map F=[FK,93,94]:=by
   show [F FK,F NK1,F NK2]=_
   rw[Ff FK (.inl rfl),F1,F2]
  rwa [e] at h1
 refine call_tree hs F hn hnH (fun a ha b hb e=>FX_inj hk1 hNn (okH a ha) (okH b hb) (by rw[← hF];exact e)) (fun x hx=>?_) trivial ?_ ?_ ?_
 ·rcases List.mem_cons.1 hx with rfl | hx
  ·rfl
  ·obtain⟨n,rfl⟩:=ha x hx
   trivial
 ·rw[List.map_cons]
  congr 1
  ·show PV.d (.ptr (F FK) 0)=_
   rw[Ff FK (.inl rfl)]
  ·conv=>rhs;rw[← List.map_id args]
   refine List.map_congr_left fun x hx=>?_
   obtain⟨n,rfl⟩:=ha x hx
   rfl
 ·rw[Ff FK (.inl rfl),Ff FK1 (.inr (.inl rfl)),Ff FK2 (.inr (.inr rfl)),ge,gu]
  exact hh
 ·rw[Ff FK (.inl rfl),Ff FK1 (.inr (.inl rfl)),Ff FK2 (.inr (.inr rfl)),F1,F2,ge,gu,← hZ,← hY]
  refine hk _ _ (fun ks hks h93 h94 p hp=>?_) (fun h=>?_)
  ·unfold deltaOf at hp
   rcases List.mem_append.1 hp with hp | hp
   ·obtain⟨q,hq,rfl⟩:=List.mem_map.1 hp
    exact .inl (rfHas_of (List.mem_map.2 ⟨q,hq,rfl⟩))
   ·obtain⟨q,hq,rfl⟩:=List.mem_map.1 hp
    have hqk:q.1∈[FK,93,94]++namesT Z Y:=by rw[← tIn_keys];exact List.mem_map.2 ⟨q,hq,rfl⟩
    have hA:∀k∈[FK,FK1,FK2]++namesT es (P++(900,u)::Q),rfHas k (nearT FK FK1 FK2 es (P++(900,u)::Q)++famT es (P++(900,u)::Q))=true:=fun k hk=>rfHas_of (by rw[tIn_keys];exact hk)
    show rfHas q.1 _=true∨ksHas q.1 ks=false
    rcases List.mem_append.1 hqk with hk | hk
    ·simp only[List.mem_cons,List.not_mem_nil,or_false] at hk
     rcases hk with e | e | e
     ·rw[e];exact .inl (hA FK (by simp))
     ·rw[e];exact .inr h93
     ·rw[e];exact .inr h94
    ·rw[hZY] at hk
     obtain⟨y,hy,e⟩:=List.mem_map.1 hk
     rcases FX_val (N:=N) hk1 hNn (.inr (hnH.inn y hy)) with ⟨b1,b2⟩ | ⟨b1,b2,b3,b4,b5⟩ | ⟨b1,b2⟩ | ⟨b1,b2⟩ | ⟨b1,b2⟩
     ·left
      rw[← e,hF,b2]
      exact hA 900 (List.mem_append_right _ (by simp[namesT]))
     ·rcases b4 with b4 | b4
      ·left
       rw[← e,hF,b4]
       have hyN:=b5.1 b4
       rw[hN] at hyN
       refine hA y (List.mem_append_right _ ?_)
       simp only[namesT,List.mem_append,List.map_append,List.map_cons,List.mem_cons] at hyN ⊢
       rcases hyN with h | h | h | h
       ·exact .inl h
       ·exact .inr (.inl h)
       ·exact absurd h b1
       ·exact .inr (.inr (.inr h))
      ·right
       rw[← e,hF,b4]
       exact ksHas_far (by omega) (by omega) hks
     ·have:=nT_big y (hnH.inn y hy)
      have h1:NK1=2000001:=rfl
      omega
     ·have:=nT_big y (hnH.inn y hy)
      have h1:NK2=2000002:=rfl
      omega
     ·have:=nT_big y (hnH.inn y hy)
      omega
  ·rw[← hF,← hZ,← hY]
   exact fun q hq=>delta_out hYd hq
end Tr
set_option maxHeartbeats 4000000 in
theorem s_mendB (es esH:List LE) (P PH Q:List UE) (k1:Nat) (u:List Nat) (at_ x:Nat) (c:Nat→Nat) (hn:NmT es (P++(k1,u)::Q)) (hok:∀e∈es,e.ok) (hx:x∈nT) (hxn:x∉namesT es (P++(k1,u)::Q)) (hl:P.length+1+Q.length≤20) (hel:es.length≤1000)
  (hu:∀n∈u,2≤n∧n≤4) (hul:u.length≤64) (hat:at_<u.sum) (hus:u.sum≤64)
  (hsz:CallS Try.prog 63 [.d (.ptr FK 0),pInt .i64 P.length,pInt .i64 at_] (tIn es (P++(k1,u)::Q)) [] (pInt .i64 (c at_)) []) (h2:¬2≤c at_)
  (hsz2:CallS Try.prog 63 [.d (.ptr FK 0),pInt .i64 P.length,pInt .i64 (sideF u at_)] (tIn es (P++(k1,u)::Q)) [] (pInt .i64 (c (sideF u at_))) []) (h3:2<c (sideF u at_))
  (hnH:NmT esH (PH++(k1,u)::Q)) (hxH:x∉namesT esH (PH++(k1,u)::Q))
  (hh:CallS Try.prog 64 [.d (.ptr FK 0),pInt .i64 P.length,pInt .i64 (sideF u at_),pInt .i64 at_] [] (tIn es (P++(k1,u)::Q)) (.tup []) (tOut esH (PH++(k1,u)::Q))) :
  CallS Try.prog 44 [.d (.ptr FK 0),pInt .i64 P.length,pInt .i64 at_] [] (tIn es (P++(k1,u)::Q)) (.tup []) (tOut esH (PH++(x,u)::Q)):=by
 have hnP:NmT es (P++Q):=nm_sub hn (List.Sublist.refl _) ((List.Sublist.refl P).append (List.sublist_cons_self _ _))
 refine callS_sem Try.func44 (by rfl) rfl (by kernel_rfl) (by rfl) ([FK,FK1,FK2]++namesT es (P++(k1,u)::Q)) (fun k hk=>by rw[List.nil_append,tIn_keys] at hk;exact hk) ?_
 refine Smc.cut (le:=[(0,.d (.ptr FK 0)),(1,pInt .i64 P.length),(2,pInt .i64 at_)]) (m:=ksF [(900,k1)]) (wk_lvl hn (P.length+1+Q.length) rfl ⟨⟨rfl,rfl,rfl⟩,.inl rfl,.inl rfl,trivial⟩) ?_
 have hR:=nm_fam hnP
 have look:∀q∈famT es (P++Q),hpL ([(FK,.box 61 [.arr FK1 28 1 0 es.length,.arr FK2 54 1 0 (P.length+1+Q.length)]),(FK1,.darr 28 1 (es.map LE.row)),(FK2,.darr 54 1 ((P++(900,u)::Q).map urow)),(900,lvlH u)]++famT es (P++Q)) q.1=some q.2:=fun q hq=>hR.past rfl hq
 have hHas:Has (hpL ([(FK,.box 61 [.arr FK1 28 1 0 es.length,.arr FK2 54 1 0 (P.length+1+Q.length)]),(FK1,.darr 28 1 (es.map LE.row)),(FK2,.darr 54 1 ((P++(900,u)::Q).map urow)),(900,lvlH u)]++famT es (P++Q))) FK FK1 FK2 es (P++(900,u)::Q):=by
  refine has_of ?_ rfl rfl (fun e he=>look e.fam (List.mem_append_left _ (List.mem_map.2 ⟨e,he,rfl⟩))) (fun p hp=>?_)
  ·rw[show (P++(900,u)::Q).length=P.length+1+Q.length by rw[List.length_append,List.length_cons];omega];rfl
  ·have hp':p=(900,u)∨p∈P++Q:=by
    simp only[List.mem_append,List.mem_cons] at hp ⊢
    rcases hp with h | h | h
    ·exact .inr (.inl h)
    ·exact .inl h
    ·exact .inr (.inr h)
   rcases hp' with rfl | hp
   ·rfl
   ·exact look (ufam p) (List.mem_append_right _ (List.mem_map.2 ⟨p,hp,rfl⟩))
 refine Smc.seq rfl ?_
 ((conv=>whnf);repeat' ((first|(with_reducible first|apply a_|apply b_|apply c_)|((with_reducible first|apply d_|apply e_|apply f_|apply g_);focus first|omega|(simp only[q_]<;>omega))|((with_reducible first|apply i_|apply h_);focus first|omega|(simp only[q_]<;>omega))|((with_reducible apply h_);focus first|decide|kernel_rfl)|refine s_ (by decide) ?_|refine t_ (by decide) ?_|with_reducible first|apply l_|apply m_|apply n_|apply o_|refine p_ (fun _=>?_) (fun _=>?_))<;>(conv=>whnf)))
 all_goals first
  | (exfalso;omega)
  | skip
 refine Smc.seq rfl ?_
 ((conv=>whnf);repeat' ((first|(with_reducible first|apply a_|apply b_|apply c_)|((with_reducible first|apply d_|apply e_|apply f_|apply g_);focus first|omega|(simp only[q_]<;>omega))|((with_reducible first|apply i_|apply h_);focus first|omega|(simp only[q_]<;>omega))|((with_reducible apply h_);focus first|decide|kernel_rfl)|refine s_ (by decide) ?_|refine t_ (by decide) ?_|with_reducible first|apply l_|apply m_|apply n_|apply o_|refine p_ (fun _=>?_) (fun _=>?_))<;>(conv=>whnf)))
 refine ro_k1 hsz hn hHas (fun rf=>?_)
 ((conv=>whnf);repeat' ((first|(with_reducible first|apply a_|apply b_|apply c_)|((with_reducible first|apply d_|apply e_|apply f_|apply g_);focus first|omega|(simp only[q_]<;>omega))|((with_reducible first|apply i_|apply h_);focus first|omega|(simp only[q_]<;>omega))|((with_reducible apply h_);focus first|decide|kernel_rfl)|refine s_ (by decide) ?_|refine t_ (by decide) ?_|with_reducible first|apply l_|apply m_|apply n_|apply o_|refine p_ (fun _=>?_) (fun _=>?_))<;>(conv=>whnf)))
 obtain⟨up,hup⟩:∃up,up=nodeF u at_:=⟨_,rfl⟩
 obtain⟨n1,n2,n3⟩:=nodeF_spec u at_ (by omega)
 rw[← hup] at n1
 have sn:=s_nodeO hn hok P.length u (by rw[List.map_append];exact get_mid2 (by rw[List.length_map])) at_ (by omega) (by omega) (by omega)
 rw[← hup] at sn
 refine Smc.seq rfl ?_
 ((conv=>whnf);repeat' ((first|(with_reducible first|apply a_|apply b_|apply c_)|((with_reducible first|apply d_|apply e_|apply f_|apply g_);focus first|omega|(simp only[q_]<;>omega))|((with_reducible first|apply i_|apply h_);focus first|omega|(simp only[q_]<;>omega))|((with_reducible apply h_);focus first|decide|kernel_rfl)|refine s_ (by decide) ?_|refine t_ (by decide) ?_|with_reducible first|apply l_|apply m_|apply n_|apply o_|refine p_ (fun _=>?_) (fun _=>?_))<;>(conv=>whnf)))
 refine ro_k1 sn hn hHas (fun rf=>?_)
 ((conv=>whnf);repeat' ((first|(with_reducible first|apply a_|apply b_|apply c_)|((with_reducible first|apply d_|apply e_|apply f_|apply g_);focus first|omega|(simp only[q_]<;>omega))|((with_reducible first|apply i_|apply h_);focus first|omega|(simp only[q_]<;>omega))|((with_reducible apply h_);focus first|decide|kernel_rfl)|refine s_ (by decide) ?_|refine t_ (by decide) ?_|with_reducible first|apply l_|apply m_|apply n_|apply o_|refine p_ (fun _=>?_) (fun _=>?_))<;>(conv=>whnf)))
 refine Smc.seq rfl ?_
 ((conv=>whnf);repeat' ((first|(with_reducible first|apply a_|apply b_|apply c_)|((with_reducible first|apply d_|apply e_|apply f_|apply g_);focus first|omega|(simp only[q_]<;>omega))|((with_reducible first|apply i_|apply h_);focus first|omega|(simp only[q_]<;>omega))|((with_reducible apply h_);focus first|decide|kernel_rfl)|refine s_ (by decide) ?_|refine t_ (by decide) ?_|with_reducible first|apply l_|apply m_|apply n_|apply o_|refine p_ (fun _=>?_) (fun _=>?_))<;>(conv=>whnf)))
 refine Smc.seq rfl ?_
 have r1:((P++(900,u)::Q).map urow)[0+((P.length:Nat):Int).toNat]? = some [.arr 900 3 1 0 u.length]:=by
  rw[show 0+((P.length:Nat):Int).toNat=P.length by omega,List.map_append,List.map_cons]
  exact get_mid2 (by rw[List.length_map])
 ((conv=>whnf);repeat' ((first|(with_reducible first|apply a_|apply b_|apply c_)|((with_reducible first|apply d_|apply e_|apply f_|apply g_);focus first|omega|(simp only[q_]<;>omega))|((with_reducible first|apply i_|apply h_);focus first|omega|(simp only[q_]<;>omega))|((with_reducible apply h_);focus first|decide|kernel_rfl)|refine s_ (by decide) ?_|refine t_ (by decide) ?_|(refine Row.mk _ r1 ?_)|with_reducible first|apply l_|apply m_|apply n_|apply o_|refine p_ (fun _=>?_) (fun _=>?_))<;>(conv=>whnf)))
 have hfk:∀k∈[FK,FK1,FK2]++namesT es (P++(k1,u)::Q),k∈ksF [(900,k1)]:=fun k hk=>by
  rcases List.mem_append.1 hk with hk | hk
  ·exact List.mem_append_left _ hk
  ·exact List.mem_append_right _ (List.mem_append_right _ (hn.inn k hk))
 refine LoopC.mk Nat (fun i=>[(0,.d (.ptr FK 0)),(1,pInt .i64 P.length),(2,pInt .i64 at_),(6,pInt .i64 up),(7,pInt .i64 (((u.take i).sum:Nat) - 1)),(59,.d (.arr 900 3 1 0 (up+1))),(60,pInt .i64 ((up+1:Nat):Int)),(61,pInt .i64 i)])
  (fun _=>[(FK,.box 61 [.arr FK1 28 1 0 es.length,.arr FK2 54 1 0 (P.length+1+Q.length)]),(FK1,.darr 28 1 (es.map LE.row)),(FK2,.darr 54 1 ((P++(900,u)::Q).map urow)),(900,lvlH u)]++famT es (P++Q))
  (ksF [(900,k1)]) (fun i=>i≤up+1) (fun i=>up+1 - i) 0 (Nat.zero_le _) ?start ?round
 case start=>
  exact wk_keep hn _ rfl hfk hHas ⟨⟨rfl,rfl,rfl⟩,.inl rfl,.inl rfl,.inl rfl,PLe.int (by simp),⟨rfl,rfl,rfl,rfl,rfl,by omega⟩,PLe.int (by omega),.inl rfl,trivial⟩
 case round=>
  intro i hi
  by_cases hlt:i<up+1
  ·have hiu:i<u.length:=by omega
   have r2:((u.map natC).map (List.map D.c))[0+((i:Nat):Int).toNat]? = some [.c (.v (.int .i64 (u[i]:Int)))]:=by
    rw[show 0+((i:Nat):Int).toNat=i by omega,List.getElem?_map,List.getElem?_map,List.getElem?_eq_getElem hiu];rfl
   have hs1:(u.take (i+1)).sum=(u.take i).sum+u[i]:=by rw[List.take_succ_eq_append_getElem hiu,List.sum_append,List.sum_singleton]
   have hs2:=sum_take_le u (i+1)
   have hs3:=hu _ (List.getElem_mem hiu)
   ((conv=>whnf);repeat' ((first|(with_reducible first|apply a_|apply b_|apply c_)|((with_reducible first|apply d_|apply e_|apply f_|apply g_);focus first|omega|(simp only[q_]<;>omega))|((with_reducible first|apply i_|apply h_);focus first|omega|(simp only[q_]<;>omega))|((with_reducible apply h_);focus first|decide|kernel_rfl)|refine s_ (by decide) ?_|refine t_ (by decide) ?_|(refine Row.mk _ r2 ?_)|with_reducible first|apply l_|apply m_|apply n_|apply o_|refine p_ (fun _=>?_) (fun _=>?_))<;>(conv=>whnf)))
   exact⟨i+1,(show i+1≤up+1 by omega),(show up+1 - (i+1)<up+1 - i by omega),wk_keep hn _ rfl hfk hHas ⟨⟨rfl,rfl,rfl⟩,.inl rfl,.inl rfl,.inl rfl,PLe.int (by omega),⟨rfl,rfl,rfl,rfl,rfl,rfl⟩,.inl rfl,PLe.int (by push_cast;omega),trivial⟩⟩
  ·obtain rfl:i=up+1:=by omega
   ((conv=>whnf);repeat' ((first|(with_reducible first|apply a_|apply b_|apply c_)|((with_reducible first|apply d_|apply e_|apply f_|apply g_);focus first|omega|(simp only[q_]<;>omega))|((with_reducible first|apply i_|apply h_);focus first|omega|(simp only[q_]<;>omega))|((with_reducible apply h_);focus first|decide|kernel_rfl)|refine s_ (by decide) ?_|refine t_ (by decide) ?_|with_reducible first|apply l_|apply m_|apply n_|apply o_|refine p_ (fun _=>?_) (fun _=>?_))<;>(conv=>whnf)))
   refine Smc.seq rfl ?_
   obtain⟨S,hS⟩:∃S,S=(u.take (up+1)).sum:=⟨_,rfl⟩
   rw[← hup] at n2 n3
   rw[← hS] at n3 ⊢
   have hS2:=sum_take_le u (up+1)
   rw[← hS] at hS2
   have hsd:sideF u at_=if at_+1=S then at_ - 1 else at_+1:=by unfold sideF;rw[← hup,← hS]
   have hs1:at_+1=S→1≤at_:=fun e=>side_int (fun n hn=>(hu n hn).1) hat (by rw[e,hS,← hup])
   ((conv=>whnf);repeat' ((first|(with_reducible first|apply a_|apply b_|apply c_)|((with_reducible first|apply d_|apply e_|apply f_|apply g_);focus first|omega|(simp only[q_]<;>omega))|((with_reducible first|apply i_|apply h_);focus first|omega|(simp only[q_]<;>omega))|((with_reducible apply h_);focus first|decide|kernel_rfl)|refine s_ (by decide) ?_|refine t_ (by decide) ?_|with_reducible first|apply l_|apply m_|apply n_|apply o_|refine p_ (fun _=>?_) (fun _=>?_))<;>(conv=>whnf)))
   obtain⟨sd,hsdd⟩:∃sd,sd=sideF u at_:=⟨_,rfl⟩
   rw[← hsdd] at hsd hsz2 h3 hh
   refine Smc.via (le:=[(0,.d (.ptr FK 0)),(1,pInt .i64 P.length),(2,pInt .i64 at_),(6,pInt .i64 up),(10,pInt .i64 sd)])
    (lh:=[(FK,.box 61 [.arr FK1 28 1 0 es.length,.arr FK2 54 1 0 (P.length+1+Q.length)]),(FK1,.darr 28 1 (es.map LE.row)),(FK2,.darr 54 1 ((P++(900,u)::Q).map urow)),(900,lvlH u)]++famT es (P++Q)) (m:=ksF [(900,k1)]) (Smc.of rfl ?mid) ?_
   case mid=>
    by_cases hc:at_+1=S
    ·rw[if_pos hc] at hsd
     have:=hs1 hc
     ((conv=>whnf);repeat' ((first|(with_reducible first|apply a_|apply b_|apply c_)|((with_reducible first|apply d_|apply e_|apply f_|apply g_);focus first|omega|(simp only[q_]<;>omega))|((with_reducible first|apply i_|apply h_);focus first|omega|(simp only[q_]<;>omega))|((with_reducible apply h_);focus first|decide|kernel_rfl)|refine s_ (by decide) ?_|refine t_ (by decide) ?_|with_reducible first|apply l_|apply m_|apply n_|apply o_|refine p_ (fun _=>?_) (fun _=>?_))<;>(conv=>whnf)))
     all_goals first
      | (exfalso;omega)
      | skip
     exact wk_keep hn _ rfl hfk hHas ⟨⟨rfl,rfl,rfl⟩,.inl rfl,.inl rfl,.inl rfl,PLe.int (by omega),trivial⟩
    ·rw[if_neg hc] at hsd
     ((conv=>whnf);repeat' ((first|(with_reducible first|apply a_|apply b_|apply c_)|((with_reducible first|apply d_|apply e_|apply f_|apply g_);focus first|omega|(simp only[q_]<;>omega))|((with_reducible first|apply i_|apply h_);focus first|omega|(simp only[q_]<;>omega))|((with_reducible apply h_);focus first|decide|kernel_rfl)|refine s_ (by decide) ?_|refine t_ (by decide) ?_|with_reducible first|apply l_|apply m_|apply n_|apply o_|refine p_ (fun _=>?_) (fun _=>?_))<;>(conv=>whnf)))
     all_goals first
      | (exfalso;omega)
      | skip
     exact wk_keep hn _ rfl hfk hHas ⟨⟨rfl,rfl,rfl⟩,.inl rfl,.inl rfl,.inl rfl,PLe.int (by omega),trivial⟩
   refine Smc.seq rfl ?_
   ((conv=>whnf);repeat' ((first|(with_reducible first|apply a_|apply b_|apply c_)|((with_reducible first|apply d_|apply e_|apply f_|apply g_);focus first|omega|(simp only[q_]<;>omega))|((with_reducible first|apply i_|apply h_);focus first|omega|(simp only[q_]<;>omega))|((with_reducible apply h_);focus first|decide|kernel_rfl)|refine s_ (by decide) ?_|refine t_ (by decide) ?_|with_reducible first|apply l_|apply m_|apply n_|apply o_|refine p_ (fun _=>?_) (fun _=>?_))<;>(conv=>whnf)))
   refine ro_k1 hsz2 hn hHas (fun rf=>?_)
   ((conv=>whnf);repeat' ((first|(with_reducible first|apply a_|apply b_|apply c_)|((with_reducible first|apply d_|apply e_|apply f_|apply g_);focus first|omega|(simp only[q_]<;>omega))|((with_reducible first|apply i_|apply h_);focus first|omega|(simp only[q_]<;>omega))|((with_reducible apply h_);focus first|decide|kernel_rfl)|refine s_ (by decide) ?_|refine t_ (by decide) ?_|with_reducible first|apply l_|apply m_|apply n_|apply o_|refine p_ (fun _=>?_) (fun _=>?_))<;>(conv=>whnf)))
   have hk1:k1∈nT:=us_in hn (k1,u) (List.mem_append_right _ List.mem_cons_self)
   obtain⟨N,hN⟩:∃N,N=namesT es (P++(k1,u)::Q):=⟨_,rfl⟩
   have hNn:∀k∈N,k∈nT:=fun k hk=>hn.inn k (by rw[hN] at hk;exact hk)
   refine tree_k1 hh hn hnH (fun y hy=>?_) hHas hN (fun δ rf hnew hout=>?_)
   ·simp only[List.mem_cons,List.not_mem_nil,or_false] at hy
    rcases hy with rfl | rfl | rfl<;>exact⟨_,rfl⟩
   refine newP_of (hnew _ rfl rfl rfl) ?_
   conv=>whnf
   refine addKs_of (fun ks'=>?_)
   ((conv=>whnf);repeat' ((first|(with_reducible first|apply a_|apply b_|apply c_)|((with_reducible first|apply d_|apply e_|apply f_|apply g_);focus first|omega|(simp only[q_]<;>omega))|((with_reducible first|apply i_|apply h_);focus first|omega|(simp only[q_]<;>omega))|((with_reducible apply h_);focus first|decide|kernel_rfl)|refine s_ (by decide) ?_|refine t_ (by decide) ?_|with_reducible first|apply l_|apply m_|apply n_|apply o_|refine p_ (fun _=>?_) (fun _=>?_))<;>(conv=>whnf)))
   have hk1H:=nm_out hnH
   have same:∀k,k∈namesT esH (PH++Q)→FX x N k=FX k1 N k:=fun k hk=>by
    have e1:k≠k1:=fun e=>hk1H (by rw[← e];exact hk)
    have e2:k≠x:=fun e=>hxH (by
     rw[← e]
     simp only[namesT,List.mem_append,List.map_append,List.map_cons,List.mem_cons] at hk ⊢
     rcases hk with h | h | h
     ·exact .inl h
     ·exact .inr (.inl h)
     ·exact .inr (.inr (.inr h)))
    unfold FX
    rw[if_neg e1,if_neg e2]
   have hn3:NmT esH (PH++(x,u)::Q):=nm_ren u hnH hx hxH
   have eZ:esH.map (LE.mv (FX x N))=esH.map (LE.mv (FX k1 N)):=List.map_congr_left fun e he=>by
    show (⟨FX x N e.k,_,_,_⟩:LE)=⟨FX k1 N e.k,_,_,_⟩
    rw[same _ (List.mem_append_left _ (List.mem_map.2 ⟨e,he,rfl⟩))]
   have eU:∀L:List UE,L.Sublist (PH++Q)→L.map (umv (FX x N))=L.map (umv (FX k1 N)):=fun L hL=>List.map_congr_left fun e he=>by
    show (FX x N e.1,e.2)=(FX k1 N e.1,e.2)
    rw[same _ (List.mem_append_right _ (List.mem_map.2 ⟨e,hL.subset he,rfl⟩))]
   have eY:(PH++(x,u)::Q).map (umv (FX x N))=(PH++(k1,u)::Q).map (umv (FX k1 N)):=by
    rw[List.map_append,List.map_append,List.map_cons,List.map_cons,eU PH (List.sublist_append_left _ _),eU Q (List.sublist_append_right _ _)]
    show _++(FX x N x,u)::_=_++(FX k1 N k1,u)::_
    rw[FX_y,FX_y]
   have Ff:∀k,k=FK∨k=FK1∨k=FK2→FX x N k=k:=fun k hk=>by
    have hk:k=1000000∨k=1000001∨k=1000002:=hk
    exact FX_f hx hNn (far_nT (by omega)) (by show k≠2000001;omega) (by show k≠2000002;omega)
   have okO:∀k∈[FK,NK1,NK2]++namesT esH (PH++(x,u)::Q),k∈[FK,FK1,FK2,NK1,NK2]∨k∈nT:=fun k hk=>by
    rcases List.mem_append.1 hk with hk | hk
    ·left
     simp only[List.mem_cons,List.not_mem_nil,or_false] at hk ⊢
     rcases hk with rfl | rfl | rfl<;>simp
    ·exact .inr (hn3.inn k hk)
   refine ret_has ([FK,FK1,FK2,NK1,NK2]++nT) (FX x N) (Ff _ (.inl rfl)) (us:=PH++(x,u)::Q) ?o1 (fun k hk=>?o2) (fun k hk=>?o3) ?o4 rfl
   case o1=>
    rw[FX_1 hx hNn,FX_2 hx hNn,eZ,eY]
    exact fun q hq=>hout _ q hq
   case o2=>
    rcases List.mem_append.1 hk with hk | hk
    ·simp only[List.mem_cons,List.not_mem_nil,or_false] at hk
     exact⟨List.mem_append_left _ (by rcases hk with rfl | rfl | rfl<;>simp),Ff k hk⟩
    ·exact⟨List.mem_append_right _ (hn.inn k hk),FX_n (fun e=>hxn (by rw[← e];exact hk)) (by rw[hN];exact hk)⟩
   case o3=>
    rcases List.mem_append.1 hk with hk | hk
    ·refine List.mem_append_left _ ?_
     simp only[List.mem_cons,List.not_mem_nil,or_false] at hk ⊢
     rcases hk with rfl | rfl | rfl<;>simp
    ·exact List.mem_append_right _ (hn3.inn k hk)
   case o4=>
    have h0:([FK,NK1,NK2]++namesT esH (PH++(x,u)::Q)).Nodup:=by
     have:=tIn_nd (b:=FK) (l:=NK1) (u:=NK2) rfl hn3
     rwa [tIn_keys] at this
    have h1:=nodup_map (F:=FX x N) h0 (fun a ha b hb e=>FX_inj hx hNn (okO a ha) (okO b hb) e)
    rw[List.map_append] at h1
    have e:[FK,NK1,NK2].map (FX x N)=[FK,FX x N NK1,FX x N NK2]:=by
     show [FX x N FK,_,_]=_
     rw[Ff FK (.inl rfl)]
    rwa [e] at h1
end Go.Proofs.Ythejollbijglcaa.Pm
end
section
namespace Go.Proofs.Ythejollbijglcaa.Pm
open Go.RowKit K
set_option maxRecDepth 100000
set_option maxRecDepth 100000
open Tr
namespace Tr
def FZ (y:Nat) (N:List Nat) (k:Nat):Nat:=if k=y then 900 else if k∈N then k else if k∈nT then k+20000 else if k=NK1 then 95 else if k=NK2 then 96 else if k=FK1 then 93 else if k=FK2 then 94 else k
theorem FZ_y (y:Nat) (N:List Nat):FZ y N y=900:=if_pos rfl
theorem FZ_n {y k:Nat} {N:List Nat} (h:k≠y) (hk:k∈N):FZ y N k=k:=by unfold FZ;rw[if_neg h,if_pos hk]
theorem FZ_new {y k:Nat} {N:List Nat} (h:k≠y) (hk:k∉N) (ht:k∈nT):FZ y N k=k+20000:=by unfold FZ;rw[if_neg h,if_neg hk,if_pos ht]
theorem FZ_f {y k:Nat} {N:List Nat} (hy:y∈nT) (hN:∀k∈N,k∈nT) (h1:k∉nT):FZ y N k=if k=NK1 then 95 else if k=NK2 then 96 else if k=FK1 then 93 else if k=FK2 then 94 else k:=by
 unfold FZ
 rw[if_neg (fun e=>h1 (by rw[e];exact hy)),if_neg (fun e=>h1 (hN k e)),if_neg h1]
theorem FZ_val {y:Nat} {N:List Nat} (hy:y∈nT) (hN:∀k∈N,k∈nT) {k:Nat} (hk:k∈[FK,FK1,FK2,NK1,NK2]∨k∈nT) :
  (k=y∧FZ y N k=900)∨(k≠y∧1000≤k∧k<7000∧(FZ y N k=k∨FZ y N k=k+20000)∧(FZ y N k=k↔k∈N))∨(k=NK1∧FZ y N k=95)∨(k=NK2∧FZ y N k=96)∨(k=FK1∧FZ y N k=93)∨(k=FK2∧FZ y N k=94)∨(k=FK∧FZ y N k=1000000):=by
 rcases hk with hk | hk
 ·simp only[List.mem_cons,List.not_mem_nil,or_false] at hk
  rcases hk with rfl | rfl | rfl | rfl | rfl
  ·exact .inr (.inr (.inr (.inr (.inr (.inr ⟨rfl,(FZ_f hy hN (far_nT (by decide))).trans rfl⟩)))))
  ·exact .inr (.inr (.inr (.inr (.inl ⟨rfl,(FZ_f hy hN (far_nT (by decide))).trans rfl⟩))))
  ·exact .inr (.inr (.inr (.inr (.inr (.inl ⟨rfl,(FZ_f hy hN (far_nT (by decide))).trans rfl⟩)))))
  ·exact .inr (.inr (.inl ⟨rfl,(FZ_f hy hN (far_nT (by decide))).trans rfl⟩))
  ·exact .inr (.inr (.inr (.inl ⟨rfl,(FZ_f hy hN (far_nT (by decide))).trans rfl⟩)))
 ·have hb:=nT_big k hk
  by_cases h1:k=y
  ·exact .inl ⟨h1,by rw[h1];exact FZ_y y N⟩
  ·by_cases h2:k∈N
   ·exact .inr (.inl ⟨h1,hb.1,hb.2,.inl (FZ_n h1 h2),⟨fun _=>h2,fun _=>FZ_n h1 h2⟩⟩)
   ·exact .inr (.inl ⟨h1,hb.1,hb.2,.inr (FZ_new h1 h2 hk),⟨fun e=>by rw[FZ_new h1 h2 hk] at e;omega,fun e=>absurd e h2⟩⟩)
theorem FZ_inj {y:Nat} {N:List Nat} (hy:y∈nT) (hN:∀k∈N,k∈nT) {a b:Nat} (ha:a∈[FK,FK1,FK2,NK1,NK2]∨a∈nT) (hb:b∈[FK,FK1,FK2,NK1,NK2]∨b∈nT) (e:FZ y N a=FZ y N b):a=b:=by
 rcases FZ_val hy hN ha with ⟨a1,a2⟩ | ⟨a1,a2,a3,a4,_⟩ | ⟨a1,a2⟩ | ⟨a1,a2⟩ | ⟨a1,a2⟩ | ⟨a1,a2⟩ | ⟨a1,a2⟩<;>rcases FZ_val hy hN hb with ⟨b1,b2⟩ | ⟨b1,b2,b3,b4,_⟩ | ⟨b1,b2⟩ | ⟨b1,b2⟩ | ⟨b1,b2⟩ | ⟨b1,b2⟩ | ⟨b1,b2⟩<;>omega
theorem tree_x {P0:Program} {f:FuncId} {args:List PV} {h:Hp} {K:OpK} {X:Value→Hp→Prop} {esJ esR:List LE} {PJ Q usR:List UE} {x:Nat} {u:List Nat} (hs:CallS P0 f (.d (.ptr FK 0)::args) [] (tIn esJ (PJ++(x,u)::Q)) (.tup []) (tOut esR usR))
  (hn:NmT esJ (PJ++(x,u)::Q)) (hnR:NmT esR usR) (ha:∀x∈args,∃n,x=pInt .i64 n) (hh:Has h FK 93 94 esJ (PJ++(900,u)::Q)) {N:List Nat} (hN:N=namesT esJ (PJ++Q))
  (hk:∀(δ:Dl) (rf:Rf),(∀ks:List Nat,(ks.all fun x=>Nat.blt x 13000||Nat.ble 1000000 x)=true→ksHas 95 ks=false→ksHas 96 ks=false→∀p∈δ,rfHas p.1 rf=true∨ksHas p.1 ks=false)→
   (∀h,Has (Dl.app h δ) FK 95 96 (esR.map (LE.mv (FZ x N))) (usR.map (umv (FZ x N))))→K (.tup []) δ rf):CallP P0 f (.d (.ptr FK 0)::args) h K X:=by
 have hk1:x∈nT:=us_in hn (x,u) (List.mem_append_right _ List.mem_cons_self)
 have hk1n:=nm_out hn
 have hnP:NmT esJ (PJ++Q):=nm_sub hn (List.Sublist.refl _) ((List.Sublist.refl PJ).append (List.sublist_cons_self _ _))
 have hNn:∀k∈N,k∈nT:=fun k hk=>hnP.inn k (by rw[hN] at hk;exact hk)
 have hsub:∀k∈namesT esJ (PJ++Q),k∈N∧k≠x:=fun k hk=>⟨by rw[hN];exact hk,fun e=>hk1n (by rw[← e];exact hk)⟩
 obtain⟨F,hF⟩:∃F,F=FZ x N:=⟨_,rfl⟩
 have F0:F FK=FK:=by rw[hF];exact (FZ_f hk1 hNn (far_nT (by decide))).trans rfl
 have Fa:F FK1=93:=by rw[hF];exact (FZ_f hk1 hNn (far_nT (by decide))).trans rfl
 have Fb:F FK2=94:=by rw[hF];exact (FZ_f hk1 hNn (far_nT (by decide))).trans rfl
 have F1:F NK1=95:=by rw[hF];exact (FZ_f hk1 hNn (far_nT (by decide))).trans rfl
 have F2:F NK2=96:=by rw[hF];exact (FZ_f hk1 hNn (far_nT (by decide))).trans rfl
 have Fk:F x=900:=by rw[hF];exact FZ_y _ _
 have Fn:∀k∈namesT esJ (PJ++Q),F k=k:=fun k hk=>by rw[hF];exact FZ_n (hsub k hk).2 (hsub k hk).1
 have ge:esJ.map (LE.mv F)=esJ:=mv_same fun e he=>Fn _ (List.mem_append_left _ (List.mem_map.2 ⟨e,he,rfl⟩))
 have gu:(PJ++(x,u)::Q).map (umv F)=PJ++(900,u)::Q:=by
  rw[List.map_append,List.map_cons,umv_same fun p hp=>Fn _ (List.mem_append_right _ (List.mem_map.2 ⟨p,List.mem_append_left _ hp,rfl⟩)),umv_same fun p hp=>Fn _ (List.mem_append_right _ (List.mem_map.2 ⟨p,List.mem_append_right _ hp,rfl⟩))]
  show PJ++(F x,u)::Q=_
  rw[Fk]
 obtain⟨Z,hZ⟩:∃Z,Z=esR.map (LE.mv F):=⟨_,rfl⟩
 obtain⟨Y,hY⟩:∃Y,Y=usR.map (umv F):=⟨_,rfl⟩
 have hZY:namesT Z Y=(namesT esR usR).map F:=by rw[hZ,hY,names_mv]
 have okH:∀k∈[FK,FK1,FK2,NK1,NK2]++(namesT esJ (PJ++(x,u)::Q)++namesT esR usR),k∈[FK,FK1,FK2,NK1,NK2]∨k∈nT:=fun k hk=>by
  rcases List.mem_append.1 hk with hk | hk
  ·exact .inl hk
  ·rcases List.mem_append.1 hk with hk | hk
   ·exact .inr (hn.inn k hk)
   ·exact .inr (hnR.inn k hk)
 have hYd:((nearT FK 95 96 Z Y++famT Z Y).map Prod.fst).Nodup:=by
  rw[tIn_keys,hZY]
  have h0:([FK,NK1,NK2]++namesT esR usR).Nodup:=by
   have:=tIn_nd (b:=FK) (l:=NK1) (u:=NK2) rfl hnR
   rwa [tIn_keys] at this
  have okO:∀k∈[FK,NK1,NK2]++namesT esR usR,k∈[FK,FK1,FK2,NK1,NK2]∨k∈nT:=fun k hk=>by
   rcases List.mem_append.1 hk with hk | hk
   ·left
    simp only[List.mem_cons,List.not_mem_nil,or_false] at hk ⊢
    rcases hk with rfl | rfl | rfl<;>simp
   ·exact .inr (hnR.inn k hk)
  have h1:=nodup_map (F:=F) h0 (fun a ha b hb e=>FZ_inj hk1 hNn (okO a ha) (okO b hb) (by rw[← hF];exact e))
  rw[List.map_append] at h1
  have e:[FK,NK1,NK2].map F=[FK,95,96]:=by
   show [F FK,F NK1,F NK2]=_
   rw[F0,F1,F2]
  rwa [e] at h1
 refine call_tree hs F hn hnR (fun a ha b hb e=>FZ_inj hk1 hNn (okH a ha) (okH b hb) (by rw[← hF];exact e)) (fun x hx=>?_) trivial ?_ ?_ ?_
 ·rcases List.mem_cons.1 hx with rfl | hx
  ·rfl
  ·obtain⟨n,rfl⟩:=ha x hx
   trivial
 ·rw[List.map_cons]
  congr 1
  ·show PV.d (.ptr (F FK) 0)=_
   rw[F0]
  ·conv=>rhs;rw[← List.map_id args]
   refine List.map_congr_left fun x hx=>?_
   obtain⟨n,rfl⟩:=ha x hx
   rfl
 ·rw[F0,Fa,Fb,ge,gu]
  exact hh
 ·rw[F0,Fa,Fb,F1,F2,ge,gu,← hZ,← hY]
  refine hk _ _ (fun ks hks h93 h94 p hp=>?_) (fun h=>?_)
  ·unfold deltaOf at hp
   rcases List.mem_append.1 hp with hp | hp
   ·obtain⟨q,hq,rfl⟩:=List.mem_map.1 hp
    exact .inl (rfHas_of (List.mem_map.2 ⟨q,hq,rfl⟩))
   ·obtain⟨q,hq,rfl⟩:=List.mem_map.1 hp
    have hqk:q.1∈[FK,95,96]++namesT Z Y:=by rw[← tIn_keys];exact List.mem_map.2 ⟨q,hq,rfl⟩
    have hA:∀k∈[FK,93,94]++namesT esJ (PJ++(900,u)::Q),rfHas k (nearT FK 93 94 esJ (PJ++(900,u)::Q)++famT esJ (PJ++(900,u)::Q))=true:=fun k hk=>rfHas_of (by rw[tIn_keys];exact hk)
    show rfHas q.1 _=true∨ksHas q.1 ks=false
    rcases List.mem_append.1 hqk with hk | hk
    ·simp only[List.mem_cons,List.not_mem_nil,or_false] at hk
     rcases hk with e | e | e
     ·rw[e];exact .inl (hA FK (by simp))
     ·rw[e];exact .inr h93
     ·rw[e];exact .inr h94
    ·rw[hZY] at hk
     obtain⟨y,hy,e⟩:=List.mem_map.1 hk
     have hyb:=nT_big y (hnR.inn y hy)
     rcases FZ_val (N:=N) hk1 hNn (.inr (hnR.inn y hy)) with ⟨b1,b2⟩ | ⟨b1,b2,b3,b4,b5⟩ | ⟨b1,b2⟩ | ⟨b1,b2⟩ | ⟨b1,b2⟩ | ⟨b1,b2⟩ | ⟨b1,b2⟩
     ·left
      rw[← e,hF,b2]
      exact hA 900 (List.mem_append_right _ (by simp[namesT]))
     ·rcases b4 with b4 | b4
      ·left
       rw[← e,hF,b4]
       have hyN:=b5.1 b4
       rw[hN] at hyN
       refine hA y (List.mem_append_right _ ?_)
       simp only[namesT,List.mem_append,List.map_append,List.map_cons,List.mem_cons] at hyN ⊢
       rcases hyN with h | h | h
       ·exact .inl h
       ·exact .inr (.inl h)
       ·exact .inr (.inr (.inr h))
      ·right
       rw[← e,hF,b4]
       exact ksHas_far (by omega) (by omega) hks
     ·have h1:NK1=2000001:=rfl
      omega
     ·have h1:NK2=2000002:=rfl
      omega
     ·have h1:FK1=1000001:=rfl
      omega
     ·have h1:FK2=1000002:=rfl
      omega
     ·have h1:FK=1000000:=rfl
      omega
  ·rw[← hF,← hZ,← hY]
   exact fun q hq=>delta_out hYd hq
end Tr
end Go.Proofs.Ythejollbijglcaa.Pm
end
namespace Go.Proofs.Ythejollbijglcaa.Pm
section
open Go.RowKit K
set_option maxRecDepth 100000
set_option maxRecDepth 100000
open Tr
set_option maxHeartbeats 4000000 in
theorem s_mendC (es esJ esR:List LE) (P PJ Q usR:List UE) (k1:Nat) (u:List Nat) (at_ x:Nat) (c:Nat→Nat) (hn:NmT es (P++(k1,u)::Q)) (hok:∀e∈es,e.ok) (hx:x∈nT) (hxn:x∉namesT es (P++(k1,u)::Q)) (hl:P.length+1+Q.length≤20) (hel:es.length≤1000)
  (hu:∀n∈u,2≤n∧n≤4) (hul:u.length≤64) (hat:at_<u.sum) (hus:u.sum≤64)
  (hsz:CallS Try.prog 63 [.d (.ptr FK 0),pInt .i64 P.length,pInt .i64 at_] (tIn es (P++(k1,u)::Q)) [] (pInt .i64 (c at_)) []) (h2:¬2≤c at_)
  (hsz2:CallS Try.prog 63 [.d (.ptr FK 0),pInt .i64 P.length,pInt .i64 (sideF u at_)] (tIn es (P++(k1,u)::Q)) [] (pInt .i64 (c (sideF u at_))) []) (h3:¬2<c (sideF u at_))
  (hnJ:NmT esJ (PJ++(k1,u)::Q)) (hxJ:x∉namesT esJ (PJ++(k1,u)::Q)) (hPJ:PJ.length=P.length)
  (hj:CallS Try.prog 65 [.d (.ptr FK 0),pInt .i64 P.length,pInt .i64 ((min at_ (sideF u at_):Nat):Int)] [] (tIn es (P++(k1,u)::Q)) (.tup []) (tOut esJ (PJ++(k1,u)::Q)))
  (hm:CallS Try.prog 44 [.d (.ptr FK 0),pInt .i64 ((P.length+1:Nat):Int),pInt .i64 (nodeF u at_)] [] (tIn esJ (PJ++(x,u.set (nodeF u at_) (u.getD (nodeF u at_) 0 - 1))::Q)) (.tup []) (tOut esR usR))
  (hnR:NmT esR usR) (hRN:∀k∈namesT esR usR,k∈namesT es (P++(k1,u)::Q)→k∈namesT esJ (PJ++Q)) :
  CallS Try.prog 44 [.d (.ptr FK 0),pInt .i64 P.length,pInt .i64 at_] [] (tIn es (P++(k1,u)::Q)) (.tup []) (tOut esR usR):=by
 have hnP:NmT es (P++Q):=nm_sub hn (List.Sublist.refl _) ((List.Sublist.refl P).append (List.sublist_cons_self _ _))
 refine callS_sem Try.func44 (by rfl) rfl (by kernel_rfl) (by rfl) ([FK,FK1,FK2]++namesT es (P++(k1,u)::Q)) (fun k hk=>by rw[List.nil_append,tIn_keys] at hk;exact hk) ?_
 refine Smc.cut (le:=[(0,.d (.ptr FK 0)),(1,pInt .i64 P.length),(2,pInt .i64 at_)]) (m:=ksF [(900,k1)]) (wk_lvl hn (P.length+1+Q.length) rfl ⟨⟨rfl,rfl,rfl⟩,.inl rfl,.inl rfl,trivial⟩) ?_
 have hR:=nm_fam hnP
 have look:∀q∈famT es (P++Q),hpL ([(FK,.box 61 [.arr FK1 28 1 0 es.length,.arr FK2 54 1 0 (P.length+1+Q.length)]),(FK1,.darr 28 1 (es.map LE.row)),(FK2,.darr 54 1 ((P++(900,u)::Q).map urow)),(900,lvlH u)]++famT es (P++Q)) q.1=some q.2:=fun q hq=>hR.past rfl hq
 have hHas:Has (hpL ([(FK,.box 61 [.arr FK1 28 1 0 es.length,.arr FK2 54 1 0 (P.length+1+Q.length)]),(FK1,.darr 28 1 (es.map LE.row)),(FK2,.darr 54 1 ((P++(900,u)::Q).map urow)),(900,lvlH u)]++famT es (P++Q))) FK FK1 FK2 es (P++(900,u)::Q):=by
  refine has_of ?_ rfl rfl (fun e he=>look e.fam (List.mem_append_left _ (List.mem_map.2 ⟨e,he,rfl⟩))) (fun p hp=>?_)
  ·rw[show (P++(900,u)::Q).length=P.length+1+Q.length by rw[List.length_append,List.length_cons];omega];rfl
  ·have hp':p=(900,u)∨p∈P++Q:=by
    simp only[List.mem_append,List.mem_cons] at hp ⊢
    rcases hp with h | h | h
    ·exact .inr (.inl h)
    ·exact .inl h
    ·exact .inr (.inr h)
   rcases hp' with rfl | hp
   ·rfl
   ·exact look (ufam p) (List.mem_append_right _ (List.mem_map.2 ⟨p,hp,rfl⟩))
 refine Smc.seq rfl ?_
 ((conv=>whnf);repeat' ((first|(with_reducible first|apply a_|apply b_|apply c_)|((with_reducible first|apply d_|apply e_|apply f_|apply g_);focus first|omega|(simp only[q_]<;>omega))|((with_reducible first|apply i_|apply h_);focus first|omega|(simp only[q_]<;>omega))|((with_reducible apply h_);focus first|decide|kernel_rfl)|refine s_ (by decide) ?_|refine t_ (by decide) ?_|with_reducible first|apply l_|apply m_|apply n_|apply o_|refine p_ (fun _=>?_) (fun _=>?_))<;>(conv=>whnf)))
 all_goals first
  | (exfalso;omega)
  | skip
 refine Smc.seq rfl ?_
 ((conv=>whnf);repeat' ((first|(with_reducible first|apply a_|apply b_|apply c_)|((with_reducible first|apply d_|apply e_|apply f_|apply g_);focus first|omega|(simp only[q_]<;>omega))|((with_reducible first|apply i_|apply h_);focus first|omega|(simp only[q_]<;>omega))|((with_reducible apply h_);focus first|decide|kernel_rfl)|refine s_ (by decide) ?_|refine t_ (by decide) ?_|with_reducible first|apply l_|apply m_|apply n_|apply o_|refine p_ (fun _=>?_) (fun _=>?_))<;>(conv=>whnf)))
 refine ro_k1 hsz hn hHas (fun rf=>?_)
 ((conv=>whnf);repeat' ((first|(with_reducible first|apply a_|apply b_|apply c_)|((with_reducible first|apply d_|apply e_|apply f_|apply g_);focus first|omega|(simp only[q_]<;>omega))|((with_reducible first|apply i_|apply h_);focus first|omega|(simp only[q_]<;>omega))|((with_reducible apply h_);focus first|decide|kernel_rfl)|refine s_ (by decide) ?_|refine t_ (by decide) ?_|with_reducible first|apply l_|apply m_|apply n_|apply o_|refine p_ (fun _=>?_) (fun _=>?_))<;>(conv=>whnf)))
 obtain⟨up,hup⟩:∃up,up=nodeF u at_:=⟨_,rfl⟩
 obtain⟨n1,n2,n3⟩:=nodeF_spec u at_ (by omega)
 rw[← hup] at n1
 have sn:=s_nodeO hn hok P.length u (by rw[List.map_append];exact get_mid2 (by rw[List.length_map])) at_ (by omega) (by omega) (by omega)
 rw[← hup] at sn
 refine Smc.seq rfl ?_
 ((conv=>whnf);repeat' ((first|(with_reducible first|apply a_|apply b_|apply c_)|((with_reducible first|apply d_|apply e_|apply f_|apply g_);focus first|omega|(simp only[q_]<;>omega))|((with_reducible first|apply i_|apply h_);focus first|omega|(simp only[q_]<;>omega))|((with_reducible apply h_);focus first|decide|kernel_rfl)|refine s_ (by decide) ?_|refine t_ (by decide) ?_|with_reducible first|apply l_|apply m_|apply n_|apply o_|refine p_ (fun _=>?_) (fun _=>?_))<;>(conv=>whnf)))
 refine ro_k1 sn hn hHas (fun rf=>?_)
 ((conv=>whnf);repeat' ((first|(with_reducible first|apply a_|apply b_|apply c_)|((with_reducible first|apply d_|apply e_|apply f_|apply g_);focus first|omega|(simp only[q_]<;>omega))|((with_reducible first|apply i_|apply h_);focus first|omega|(simp only[q_]<;>omega))|((with_reducible apply h_);focus first|decide|kernel_rfl)|refine s_ (by decide) ?_|refine t_ (by decide) ?_|with_reducible first|apply l_|apply m_|apply n_|apply o_|refine p_ (fun _=>?_) (fun _=>?_))<;>(conv=>whnf)))
 refine Smc.seq rfl ?_
 ((conv=>whnf);repeat' ((first|(with_reducible first|apply a_|apply b_|apply c_)|((with_reducible first|apply d_|apply e_|apply f_|apply g_);focus first|omega|(simp only[q_]<;>omega))|((with_reducible first|apply i_|apply h_);focus first|omega|(simp only[q_]<;>omega))|((with_reducible apply h_);focus first|decide|kernel_rfl)|refine s_ (by decide) ?_|refine t_ (by decide) ?_|with_reducible first|apply l_|apply m_|apply n_|apply o_|refine p_ (fun _=>?_) (fun _=>?_))<;>(conv=>whnf)))
 refine Smc.seq rfl ?_
 have r1:((P++(900,u)::Q).map urow)[0+((P.length:Nat):Int).toNat]? = some [.arr 900 3 1 0 u.length]:=by
  rw[show 0+((P.length:Nat):Int).toNat=P.length by omega,List.map_append,List.map_cons]
  exact get_mid2 (by rw[List.length_map])
 ((conv=>whnf);repeat' ((first|(with_reducible first|apply a_|apply b_|apply c_)|((with_reducible first|apply d_|apply e_|apply f_|apply g_);focus first|omega|(simp only[q_]<;>omega))|((with_reducible first|apply i_|apply h_);focus first|omega|(simp only[q_]<;>omega))|((with_reducible apply h_);focus first|decide|kernel_rfl)|refine s_ (by decide) ?_|refine t_ (by decide) ?_|(refine Row.mk _ r1 ?_)|with_reducible first|apply l_|apply m_|apply n_|apply o_|refine p_ (fun _=>?_) (fun _=>?_))<;>(conv=>whnf)))
 have hfk:∀k∈[FK,FK1,FK2]++namesT es (P++(k1,u)::Q),k∈ksF [(900,k1)]:=fun k hk=>by
  rcases List.mem_append.1 hk with hk | hk
  ·exact List.mem_append_left _ hk
  ·exact List.mem_append_right _ (List.mem_append_right _ (hn.inn k hk))
 refine LoopC.mk Nat (fun i=>[(0,.d (.ptr FK 0)),(1,pInt .i64 P.length),(2,pInt .i64 at_),(6,pInt .i64 up),(7,pInt .i64 (((u.take i).sum:Nat) - 1)),(59,.d (.arr 900 3 1 0 (up+1))),(60,pInt .i64 ((up+1:Nat):Int)),(61,pInt .i64 i)])
  (fun _=>[(FK,.box 61 [.arr FK1 28 1 0 es.length,.arr FK2 54 1 0 (P.length+1+Q.length)]),(FK1,.darr 28 1 (es.map LE.row)),(FK2,.darr 54 1 ((P++(900,u)::Q).map urow)),(900,lvlH u)]++famT es (P++Q))
  (ksF [(900,k1)]) (fun i=>i≤up+1) (fun i=>up+1 - i) 0 (Nat.zero_le _) ?start ?round
 case start=>
  exact wk_keep hn _ rfl hfk hHas ⟨⟨rfl,rfl,rfl⟩,.inl rfl,.inl rfl,.inl rfl,PLe.int (by simp),⟨rfl,rfl,rfl,rfl,rfl,by omega⟩,PLe.int (by omega),.inl rfl,trivial⟩
 case round=>
  intro i hi
  by_cases hlt:i<up+1
  ·have hiu:i<u.length:=by omega
   have r2:((u.map natC).map (List.map D.c))[0+((i:Nat):Int).toNat]? = some [.c (.v (.int .i64 (u[i]:Int)))]:=by
    rw[show 0+((i:Nat):Int).toNat=i by omega,List.getElem?_map,List.getElem?_map,List.getElem?_eq_getElem hiu];rfl
   have hs1:(u.take (i+1)).sum=(u.take i).sum+u[i]:=by rw[List.take_succ_eq_append_getElem hiu,List.sum_append,List.sum_singleton]
   have hs2:=sum_take_le u (i+1)
   have hs3:=hu _ (List.getElem_mem hiu)
   ((conv=>whnf);repeat' ((first|(with_reducible first|apply a_|apply b_|apply c_)|((with_reducible first|apply d_|apply e_|apply f_|apply g_);focus first|omega|(simp only[q_]<;>omega))|((with_reducible first|apply i_|apply h_);focus first|omega|(simp only[q_]<;>omega))|((with_reducible apply h_);focus first|decide|kernel_rfl)|refine s_ (by decide) ?_|refine t_ (by decide) ?_|(refine Row.mk _ r2 ?_)|with_reducible first|apply l_|apply m_|apply n_|apply o_|refine p_ (fun _=>?_) (fun _=>?_))<;>(conv=>whnf)))
   exact⟨i+1,(show i+1≤up+1 by omega),(show up+1 - (i+1)<up+1 - i by omega),wk_keep hn _ rfl hfk hHas ⟨⟨rfl,rfl,rfl⟩,.inl rfl,.inl rfl,.inl rfl,PLe.int (by omega),⟨rfl,rfl,rfl,rfl,rfl,rfl⟩,.inl rfl,PLe.int (by push_cast;omega),trivial⟩⟩
  ·obtain rfl:i=up+1:=by omega
   ((conv=>whnf);repeat' ((first|(with_reducible first|apply a_|apply b_|apply c_)|((with_reducible first|apply d_|apply e_|apply f_|apply g_);focus first|omega|(simp only[q_]<;>omega))|((with_reducible first|apply i_|apply h_);focus first|omega|(simp only[q_]<;>omega))|((with_reducible apply h_);focus first|decide|kernel_rfl)|refine s_ (by decide) ?_|refine t_ (by decide) ?_|with_reducible first|apply l_|apply m_|apply n_|apply o_|refine p_ (fun _=>?_) (fun _=>?_))<;>(conv=>whnf)))
   refine Smc.seq rfl ?_
   obtain⟨S,hS⟩:∃S,S=(u.take (up+1)).sum:=⟨_,rfl⟩
   rw[← hup] at n2 n3
   rw[← hS] at n3 ⊢
   have hS2:=sum_take_le u (up+1)
   rw[← hS] at hS2
   have hsd:sideF u at_=if at_+1=S then at_ - 1 else at_+1:=by unfold sideF;rw[← hup,← hS]
   have hs1:at_+1=S→1≤at_:=fun e=>side_int (fun n hn=>(hu n hn).1) hat (by rw[e,hS,← hup])
   ((conv=>whnf);repeat' ((first|(with_reducible first|apply a_|apply b_|apply c_)|((with_reducible first|apply d_|apply e_|apply f_|apply g_);focus first|omega|(simp only[q_]<;>omega))|((with_reducible first|apply i_|apply h_);focus first|omega|(simp only[q_]<;>omega))|((with_reducible apply h_);focus first|decide|kernel_rfl)|refine s_ (by decide) ?_|refine t_ (by decide) ?_|with_reducible first|apply l_|apply m_|apply n_|apply o_|refine p_ (fun _=>?_) (fun _=>?_))<;>(conv=>whnf)))
   obtain⟨sd,hsdd⟩:∃sd,sd=sideF u at_:=⟨_,rfl⟩
   rw[← hsdd] at hsd hsz2 h3 hj
   refine Smc.via (le:=[(0,.d (.ptr FK 0)),(1,pInt .i64 P.length),(2,pInt .i64 at_),(6,pInt .i64 up),(10,pInt .i64 sd)])
    (lh:=[(FK,.box 61 [.arr FK1 28 1 0 es.length,.arr FK2 54 1 0 (P.length+1+Q.length)]),(FK1,.darr 28 1 (es.map LE.row)),(FK2,.darr 54 1 ((P++(900,u)::Q).map urow)),(900,lvlH u)]++famT es (P++Q)) (m:=ksF [(900,k1)]) (Smc.of rfl ?mid) ?_
   case mid=>
    by_cases hc:at_+1=S
    ·rw[if_pos hc] at hsd
     have:=hs1 hc
     ((conv=>whnf);repeat' ((first|(with_reducible first|apply a_|apply b_|apply c_)|((with_reducible first|apply d_|apply e_|apply f_|apply g_);focus first|omega|(simp only[q_]<;>omega))|((with_reducible first|apply i_|apply h_);focus first|omega|(simp only[q_]<;>omega))|((with_reducible apply h_);focus first|decide|kernel_rfl)|refine s_ (by decide) ?_|refine t_ (by decide) ?_|with_reducible first|apply l_|apply m_|apply n_|apply o_|refine p_ (fun _=>?_) (fun _=>?_))<;>(conv=>whnf)))
     all_goals first
      | (exfalso;omega)
      | skip
     exact wk_keep hn _ rfl hfk hHas ⟨⟨rfl,rfl,rfl⟩,.inl rfl,.inl rfl,.inl rfl,PLe.int (by omega),trivial⟩
    ·rw[if_neg hc] at hsd
     ((conv=>whnf);repeat' ((first|(with_reducible first|apply a_|apply b_|apply c_)|((with_reducible first|apply d_|apply e_|apply f_|apply g_);focus first|omega|(simp only[q_]<;>omega))|((with_reducible first|apply i_|apply h_);focus first|omega|(simp only[q_]<;>omega))|((with_reducible apply h_);focus first|decide|kernel_rfl)|refine s_ (by decide) ?_|refine t_ (by decide) ?_|with_reducible first|apply l_|apply m_|apply n_|apply o_|refine p_ (fun _=>?_) (fun _=>?_))<;>(conv=>whnf)))
     all_goals first
      | (exfalso;omega)
      | skip
     exact wk_keep hn _ rfl hfk hHas ⟨⟨rfl,rfl,rfl⟩,.inl rfl,.inl rfl,.inl rfl,PLe.int (by omega),trivial⟩
   refine Smc.seq rfl ?_
   ((conv=>whnf);repeat' ((first|(with_reducible first|apply a_|apply b_|apply c_)|((with_reducible first|apply d_|apply e_|apply f_|apply g_);focus first|omega|(simp only[q_]<;>omega))|((with_reducible first|apply i_|apply h_);focus first|omega|(simp only[q_]<;>omega))|((with_reducible apply h_);focus first|decide|kernel_rfl)|refine s_ (by decide) ?_|refine t_ (by decide) ?_|with_reducible first|apply l_|apply m_|apply n_|apply o_|refine p_ (fun _=>?_) (fun _=>?_))<;>(conv=>whnf)))
   refine ro_k1 hsz2 hn hHas (fun rf=>?_)
   ((conv=>whnf);repeat' ((first|(with_reducible first|apply a_|apply b_|apply c_)|((with_reducible first|apply d_|apply e_|apply f_|apply g_);focus first|omega|(simp only[q_]<;>omega))|((with_reducible first|apply i_|apply h_);focus first|omega|(simp only[q_]<;>omega))|((with_reducible apply h_);focus first|decide|kernel_rfl)|refine s_ (by decide) ?_|refine t_ (by decide) ?_|with_reducible first|apply l_|apply m_|apply n_|apply o_|refine p_ (fun _=>?_) (fun _=>?_))<;>(conv=>whnf)))
   have hk1:k1∈nT:=us_in hn (k1,u) (List.mem_append_right _ List.mem_cons_self)
   obtain⟨N,hN⟩:∃N,N=namesT es (P++(k1,u)::Q):=⟨_,rfl⟩
   have hNn:∀k∈N,k∈nT:=fun k hk=>hn.inn k (by rw[hN] at hk;exact hk)
   have hmin:(if ((sd:Nat):Int)<((at_:Nat):Int) then ((sd:Nat):Int) else ((at_:Nat):Int))=((min at_ sd:Nat):Int):=by split<;>omega
   refine Smc.seq rfl ?_
   ((conv=>whnf);repeat' ((first|(with_reducible first|apply a_|apply b_|apply c_)|((with_reducible first|apply d_|apply e_|apply f_|apply g_);focus first|omega|(simp only[q_]<;>omega))|((with_reducible first|apply i_|apply h_);focus first|omega|(simp only[q_]<;>omega))|((with_reducible apply h_);focus first|decide|kernel_rfl)|refine s_ (by decide) ?_|refine t_ (by decide) ?_|with_reducible first|apply l_|apply m_|apply n_|apply o_|refine p_ (fun _=>?_) (fun _=>?_))<;>(conv=>whnf)))
   rw[hmin]
   refine tree_k1 hj hn hnJ (fun y hy=>?_) hHas hN (fun δ rf hnew hout=>?_)
   ·simp only[List.mem_cons,List.not_mem_nil,or_false] at hy
    rcases hy with rfl | rfl<;>exact⟨_,rfl⟩
   refine newP_of (hnew _ rfl rfl rfl) ?_
   conv=>whnf
   refine addKs_of (fun ks'=>?_)
   ((conv=>whnf);repeat' ((first|(with_reducible first|apply a_|apply b_|apply c_)|((with_reducible first|apply d_|apply e_|apply f_|apply g_);focus first|omega|(simp only[q_]<;>omega))|((with_reducible first|apply i_|apply h_);focus first|omega|(simp only[q_]<;>omega))|((with_reducible apply h_);focus first|decide|kernel_rfl)|refine s_ (by decide) ?_|refine t_ (by decide) ?_|with_reducible first|apply l_|apply m_|apply n_|apply o_|refine p_ (fun _=>?_) (fun _=>?_))<;>(conv=>whnf)))
   have hk1J:=nm_out hnJ
   have hnJQ:NmT esJ (PJ++Q):=nm_sub hnJ (List.Sublist.refl _) ((List.Sublist.refl PJ).append (List.sublist_cons_self _ _))
   have same:∀k,k∈namesT esJ (PJ++Q)→FX x N k=FX k1 N k:=fun k hk=>by
    have e1:k≠k1:=fun e=>hk1J (by rw[← e];exact hk)
    have e2:k≠x:=fun e=>hxJ (by
     rw[← e]
     simp only[namesT,List.mem_append,List.map_append,List.map_cons,List.mem_cons] at hk ⊢
     rcases hk with h | h | h
     ·exact .inl h
     ·exact .inr (.inl h)
     ·exact .inr (.inr (.inr h)))
    unfold FX
    rw[if_neg e1,if_neg e2]
   have hn3:NmT esJ (PJ++(x,u)::Q):=nm_ren u hnJ hx hxJ
   have eZ:esJ.map (LE.mv (FX x N))=esJ.map (LE.mv (FX k1 N)):=List.map_congr_left fun e he=>by
    show (⟨FX x N e.k,_,_,_⟩:LE)=⟨FX k1 N e.k,_,_,_⟩
    rw[same _ (List.mem_append_left _ (List.mem_map.2 ⟨e,he,rfl⟩))]
   have eU:∀L:List UE,L.Sublist (PJ++Q)→L.map (umv (FX x N))=L.map (umv (FX k1 N)):=fun L hL=>List.map_congr_left fun e he=>by
    show (FX x N e.1,e.2)=(FX k1 N e.1,e.2)
    rw[same _ (List.mem_append_right _ (List.mem_map.2 ⟨e,hL.subset he,rfl⟩))]
   have F93:∀k,(k<1000∨k=1000000∨k=1000001∨k=1000002)→FX x N k=k:=fun k hk=>
    FX_f hx hNn (fun hm=>by have:=nT_big k hm;omega) (by show k≠2000001;omega) (by show k≠2000002;omega)
   have eY:(PJ++(900,u)::Q).map (umv (FX x N))=(PJ++(k1,u)::Q).map (umv (FX k1 N)):=by
    rw[List.map_append,List.map_append,List.map_cons,List.map_cons,eU PJ (List.sublist_append_left _ _),eU Q (List.sublist_append_right _ _)]
    show _++(FX x N 900,u)::_=_++(FX k1 N k1,u)::_
    rw[FX_y,F93 900 (by omega)]
   refine Smc.cut (le:=[(0,.d (.ptr FK 0)),(1,pInt .i64 P.length),(6,pInt .i64 up)])
    (lh:=[(FK,.box 61 [.arr 93 28 1 0 esJ.length,.arr 94 54 1 0 (P.length+1+Q.length)]),(93,.darr 28 1 (esJ.map LE.row)),(94,.darr 54 1 ((PJ++(900,u)::Q).map urow)),(900,lvlH u)]++famT esJ (PJ++Q)) (m:=[FK,FK1,FK2,93,94,900]++nT)
    (wk_sub (wk_has (near:=[]) (FX x N) (b:=FK) (l:=93) (u:=94) (es:=esJ) (us:=PJ++(900,u)::Q) ?g1 (fun k hk=>?g2) (fun k hk=>?g3) ?g4 (fun q hq=>(by cases hq)) ?g5) (fun q hq=>?g6)) ?_
   case g1=>
    rw[eZ,eY,F93 FK (.inr (.inl rfl)),F93 93 (by omega),F93 94 (by omega)]
    exact fun q hq=>hout _ q hq
   case g2=>
    rcases List.mem_append.1 hk with hk | hk
    ·simp only[List.mem_cons,List.not_mem_nil,or_false] at hk
     refine⟨List.mem_append_left _ (by rcases hk with rfl | rfl | rfl<;>simp),F93 k ?_⟩
     have hk:k=1000000∨k=1000001∨k=1000002:=hk
     omega
    ·exact⟨List.mem_append_right _ (hn.inn k hk),FX_n (fun e=>hxn (by rw[← e];exact hk)) (by rw[hN];exact hk)⟩
   case g3=>
    simp only[namesT,List.mem_append,List.map_append,List.map_cons,List.mem_cons] at hk
    rcases hk with hk | hk | hk | rfl | hk
    ·refine List.mem_append_left _ ?_
     simp only[List.not_mem_nil,or_false] at hk
     rcases hk with rfl | rfl | rfl<;>simp
    ·exact List.mem_append_right _ (hnJQ.inn k (List.mem_append_left _ hk))
    ·exact List.mem_append_right _ (hnJQ.inn k (List.mem_append_right _ (by rw[List.map_append];exact List.mem_append_left _ hk)))
    ·exact List.mem_append_left _ (by simp)
    ·exact List.mem_append_right _ (hnJQ.inn k (List.mem_append_right _ (by rw[List.map_append];exact List.mem_append_right _ hk)))
   case g4=>
    have h0:([FK,NK1,NK2]++namesT esJ (PJ++(x,u)::Q)).Nodup:=by
     have:=tIn_nd (b:=FK) (l:=NK1) (u:=NK2) rfl hn3
     rwa [tIn_keys] at this
    have okO:∀k∈[FK,NK1,NK2]++namesT esJ (PJ++(x,u)::Q),k∈[FK,FK1,FK2,NK1,NK2]∨k∈nT:=fun k hk=>by
     rcases List.mem_append.1 hk with hk | hk
     ·left
      simp only[List.mem_cons,List.not_mem_nil,or_false] at hk ⊢
      rcases hk with rfl | rfl | rfl<;>simp
     ·exact .inr (hn3.inn k hk)
    have h1:=nodup_map (F:=FX x N) h0 (fun a ha b hb e=>FX_inj hx hNn (okO a ha) (okO b hb) e)
    have e:([FK,NK1,NK2]++namesT esJ (PJ++(x,u)::Q)).map (FX x N)=[FX x N FK,FX x N 93,FX x N 94]++(namesT esJ (PJ++(900,u)::Q)).map (FX x N):=by
     rw[List.map_append]
     congr 1
     ·show [FX x N FK,FX x N NK1,FX x N NK2]=_
      rw[FX_1 hx hNn,FX_2 hx hNn,F93 93 (by omega),F93 94 (by omega)]
     ·simp only[namesT,List.map_append,List.map_cons]
      rw[FX_y,F93 900 (by omega)]
    rw[e] at h1
    exact h1
   case g5=>
    have m:∀k∈[FK,FK1,FK2,93,94,900]++nT,fnL (mR (FX x N) ([FK,FK1,FK2,93,94,900]++nT)) k=some (FX x N k):=fun k hk=>mR_in hk
    exact⟨⟨rfl,by rw[m FK (by simp),F93 FK (.inr (.inl rfl))],rfl⟩,.inl rfl,.inl rfl,trivial⟩
   case g6=>
    rcases List.mem_append.1 hq with hq | hq
    ·simp only[List.mem_cons,List.not_mem_nil,or_false] at hq
     rcases hq with h | h | h | h
     ·exact List.mem_append_right _ (List.mem_append_left _ (by rw[h,show P.length+1+Q.length=(PJ++(900,u)::Q).length by rw[List.length_append,List.length_cons];omega];exact List.mem_cons_self))
     ·exact List.mem_append_right _ (List.mem_append_left _ (by rw[h];simp))
     ·exact List.mem_append_right _ (List.mem_append_left _ (by rw[h];simp))
     ·refine List.mem_append_right _ (List.mem_append_right _ (List.mem_append_right _ ?_))
      rw[h,List.map_append]
      exact List.mem_append_right _ List.mem_cons_self
    ·refine List.mem_append_right _ (List.mem_append_right _ ?_)
     rcases List.mem_append.1 hq with hq | hq
     ·exact List.mem_append_left _ hq
     ·refine List.mem_append_right _ ?_
      rw[List.map_append] at hq ⊢
      rcases List.mem_append.1 hq with hq | hq
      ·exact List.mem_append_left _ hq
      ·exact List.mem_append_right _ (List.mem_cons_of_mem _ hq)
   have r3:((PJ++(900,u)::Q).map urow)[0+((P.length:Nat):Int).toNat]? = some [.arr 900 3 1 0 u.length]:=by
    rw[show 0+((P.length:Nat):Int).toNat=P.length by omega,List.map_append,List.map_cons]
    exact get_mid2 (by rw[List.length_map,hPJ])
   have r4:((u.map natC).map (List.map D.c))[0+((up:Nat):Int).toNat]? = some [.c (.v (.int .i64 (u[up]:Int)))]:=by
    rw[show 0+((up:Nat):Int).toNat=up by omega,List.getElem?_map,List.getElem?_map,List.getElem?_eq_getElem n1];rfl
   have hu2:=hu _ (List.getElem_mem n1)
   refine Smc.seq rfl ?_
   ((conv=>whnf);repeat' ((first|(with_reducible first|apply a_|apply b_|apply c_)|((with_reducible first|apply d_|apply e_|apply f_|apply g_);focus first|omega|(simp only[q_]<;>omega))|((with_reducible first|apply i_|apply h_);focus first|omega|(simp only[q_]<;>omega))|((with_reducible apply h_);focus first|decide|kernel_rfl)|refine s_ (by decide) ?_|refine t_ (by decide) ?_|(first|refine Row.mk _ r3 ?_|refine Row.mk _ r4 ?_)|with_reducible first|apply l_|apply m_|apply n_|apply o_|refine p_ (fun _=>?_) (fun _=>?_))<;>(conv=>whnf)))
   refine Smc.of rfl ?_
   ((conv=>whnf);repeat' ((first|(with_reducible first|apply a_|apply b_|apply c_)|((with_reducible first|apply d_|apply e_|apply f_|apply g_);focus first|omega|(simp only[q_]<;>omega))|((with_reducible first|apply i_|apply h_);focus first|omega|(simp only[q_]<;>omega))|((with_reducible apply h_);focus first|decide|kernel_rfl)|refine s_ (by decide) ?_|refine t_ (by decide) ?_|with_reducible first|apply l_|apply m_|apply n_|apply o_|refine p_ (fun _=>?_) (fun _=>?_))<;>(conv=>whnf)))
   rw[← hup,show ((P.length+1:Nat):Int)=(P.length:Int)+1 from rfl] at hm
   have hgd:u.getD up 0=u[up]:=by rw[List.getD_eq_getElem?_getD,List.getElem?_eq_getElem n1];rfl
   rw[hgd] at hm
   obtain⟨u',hu'⟩:∃u',u'=u.set up (u[up] - 1):=⟨_,rfl⟩
   have hu'l:u'.length=u.length:=by rw[hu',List.length_set]
   rw[← hu'] at hm
   have hR2:=nm_fam hnJQ
   have look2:∀q∈famT esJ (PJ++Q),hpL ([(FK,.box 61 [.arr 93 28 1 0 esJ.length,.arr 94 54 1 0 (P.length+1+Q.length)]),(93,.darr 28 1 (esJ.map LE.row)),(94,.darr 54 1 ((PJ++(900,u)::Q).map urow)),(900,lvlH u)]++famT esJ (PJ++Q)) q.1=some q.2:=fun q hq=>hR2.past rfl hq
   refine tree_x hm (nm_ren u' hnJ hx hxJ) hnR (fun y hy=>?_) (has_of ?_ rfl ?_ (fun e he=>?_) (fun p hp=>?_)) rfl (fun δ2 rf2 hnew2 hout2=>?_)
   ·simp only[List.mem_cons,List.not_mem_nil,or_false] at hy
    rcases hy with rfl | rfl<;>exact⟨_,rfl⟩
   ·rw[show (PJ++(900,u')::Q).length=P.length+1+Q.length by rw[List.length_append,List.length_cons];omega];rfl
   ·refine congrArg (fun r=>some (HB.darr 54 1 r)) ?_
    rw[List.map_append,List.map_append,List.map_cons,List.map_cons]
    congr 2
    show [D.arr 900 3 1 0 _]=[D.arr 900 3 1 0 _]
    rw[hu'l]
   ·have hm:e.fam∈famT esJ (PJ++Q):=List.mem_append_left _ (List.mem_map.2 ⟨e,he,rfl⟩)
    have hb:=(hR2.keys e.fam hm).1
    repeat refine app_fam rfl hb ?_
    exact look2 e.fam hm
   ·have hp':p=(900,u')∨p∈PJ++Q:=by
     simp only[List.mem_append,List.mem_cons] at hp ⊢
     rcases hp with h | h | h
     ·exact .inr (.inl h)
     ·exact .inl h
     ·exact .inr (.inr h)
    rcases hp' with rfl | hp
    ·refine (lvl_eq ?_:_)
     rw[show 0+((up:Nat):Int).toNat=up by omega,hu']
     exact lvl_set u up (n:=u[up] - 1) (by omega)
    ·have hm:ufam p∈famT esJ (PJ++Q):=List.mem_append_right _ (List.mem_map.2 ⟨p,hp,rfl⟩)
     have hb:=(hR2.keys (ufam p) hm).1
     repeat refine app_fam rfl hb ?_
     exact look2 (ufam p) hm
   refine newP_of (hnew2 _ rfl rfl rfl) ?_
   conv=>whnf
   refine addKs_of (fun ks2=>?_)
   ((conv=>whnf);repeat' ((first|(with_reducible first|apply a_|apply b_|apply c_)|((with_reducible first|apply d_|apply e_|apply f_|apply g_);focus first|omega|(simp only[q_]<;>omega))|((with_reducible first|apply i_|apply h_);focus first|omega|(simp only[q_]<;>omega))|((with_reducible apply h_);focus first|decide|kernel_rfl)|refine s_ (by decide) ?_|refine t_ (by decide) ?_|with_reducible first|apply l_|apply m_|apply n_|apply o_|refine p_ (fun _=>?_) (fun _=>?_))<;>(conv=>whnf)))
   obtain⟨J,hJ⟩:∃J,J=namesT esJ (PJ++Q):=⟨_,rfl⟩
   have hJn:∀k∈J,k∈nT:=fun k hk=>hnJQ.inn k (by rw[hJ] at hk;exact hk)
   obtain⟨F4,hF4⟩:∃F4:Nat→Nat,F4=fun k=>if k∈N∨k=FK1∨k=FK2 then k else FZ x J k:=⟨_,rfl⟩
   have F4a:∀k,(k∈N∨k=FK1∨k=FK2)→F4 k=k:=fun k hk=>by rw[hF4];exact if_pos hk
   have F4b:∀k,¬(k∈N∨k=FK1∨k=FK2)→F4 k=FZ x J k:=fun k hk=>by rw[hF4];exact if_neg hk
   have F4n:∀k,k∈namesT esR usR→F4 k=FZ x J k:=fun k hk=>by
    by_cases h:k∈N
    ·rw[F4a k (.inl h),FZ_n (fun e=>hxn (by rw[← e,← hN];exact h)) (by rw[hJ];exact hRN k hk (by rw[← hN];exact h))]
    ·refine F4b k fun h'=>?_
     have hb:=nT_big k (hnR.inn k hk)
     rcases h' with h' | h' | h'
     ·exact h h'
     ·have:k=1000001:=h'
      omega
     ·have:k=1000002:=h'
      omega
   have F4f:∀k,k=FK∨k=NK1∨k=NK2→F4 k=FZ x J k:=fun k hk=>F4b k fun h=>by
    have hk:k=1000000∨k=2000001∨k=2000002:=hk
    rcases h with h | h | h
    ·have:=nT_big k (hNn k h);omega
    ·have:k=1000001:=h
     omega
    ·have:k=1000002:=h
     omega
   have z0:F4 FK=FK:=(F4f _ (.inl rfl)).trans ((FZ_f hx hJn (far_nT (by decide))).trans rfl)
   have z1:F4 NK1=95:=(F4f _ (.inr (.inl rfl))).trans ((FZ_f hx hJn (far_nT (by decide))).trans rfl)
   have z2:F4 NK2=96:=(F4f _ (.inr (.inr rfl))).trans ((FZ_f hx hJn (far_nT (by decide))).trans rfl)
   have eZ2:esR.map (LE.mv F4)=esR.map (LE.mv (FZ x J)):=List.map_congr_left fun e he=>by
    show (⟨F4 e.k,_,_,_⟩:LE)=⟨FZ x J e.k,_,_,_⟩
    rw[F4n _ (List.mem_append_left _ (List.mem_map.2 ⟨e,he,rfl⟩))]
   have eY2:usR.map (umv F4)=usR.map (umv (FZ x J)):=List.map_congr_left fun e he=>by
    show (F4 e.1,e.2)=(FZ x J e.1,e.2)
    rw[F4n _ (List.mem_append_right _ (List.mem_map.2 ⟨e,he,rfl⟩))]
   refine ret_has ([FK,FK1,FK2,NK1,NK2]++nT) F4 z0 (us:=usR) ?o1 (fun k hk=>?o2) (fun k hk=>?o3) ?o4 rfl
   case o1=>
    rw[z1,z2,eZ2,eY2,hJ]
    exact fun q hq=>hout2 _ q hq
   case o2=>
    rcases List.mem_append.1 hk with hk | hk
    ·simp only[List.mem_cons,List.not_mem_nil,or_false] at hk
     refine⟨List.mem_append_left _ (by rcases hk with rfl | rfl | rfl<;>simp),?_⟩
     rcases hk with rfl | hk
     ·exact z0
     ·exact F4a k (.inr hk)
    ·exact⟨List.mem_append_right _ (hn.inn k hk),F4a k (.inl (by rw[hN];exact hk))⟩
   case o3=>
    rcases List.mem_append.1 hk with hk | hk
    ·refine List.mem_append_left _ ?_
     simp only[List.mem_cons,List.not_mem_nil,or_false] at hk ⊢
     rcases hk with rfl | rfl | rfl<;>simp
    ·exact List.mem_append_right _ (hnR.inn k hk)
   case o4=>
    have h0:([FK,NK1,NK2]++namesT esR usR).Nodup:=by
     have:=tIn_nd (b:=FK) (l:=NK1) (u:=NK2) rfl hnR
     rwa [tIn_keys] at this
    have okO:∀k∈[FK,NK1,NK2]++namesT esR usR,k∈[FK,FK1,FK2,NK1,NK2]∨k∈nT:=fun k hk=>by
     rcases List.mem_append.1 hk with hk | hk
     ·left
      simp only[List.mem_cons,List.not_mem_nil,or_false] at hk ⊢
      rcases hk with rfl | rfl | rfl<;>simp
     ·exact .inr (hnR.inn k hk)
    have h1:=nodup_map (F:=FZ x J) h0 (fun a ha b hb e=>FZ_inj hx hJn (okO a ha) (okO b hb) e)
    rw[List.map_append] at h1
    have e:[FK,NK1,NK2].map (FZ x J)=[FK,F4 NK1,F4 NK2]:=by
     show [FZ x J FK,FZ x J NK1,FZ x J NK2]=_
     rw[← F4f _ (.inl rfl),← F4f _ (.inr (.inl rfl)),← F4f _ (.inr (.inr rfl)),z0]
    rw[e,← List.map_congr_left F4n] at h1
    exact h1
end
end Go.Proofs.Ythejollbijglcaa.Pm
section
namespace Go.Proofs.Ythejollbijglcaa.Pm
open Go.RowKit K
set_option maxRecDepth 100000
set_option maxRecDepth 100000
open Tr
def mendN:Nat→Nat→List Nat→List UE→Nat→List UE
 | _,k0,v,[],at_=>if v.getD at_ 0=1 then [] else [(k0,v)]
 | i,k0,v,(_,u)::Q,at_=>if 2≤v.getD at_ 0 then (k0,v)::(2*i+3+3000,u)::Q
  else if 2<v.getD (sideF u at_) 0 then (2*i+3000,(v.set (sideF u at_) (v.getD (sideF u at_) 0 - 1)).set at_ (v.getD at_ 0+1))::(2*i+3+3000,u)::Q
  else (2*i+3000,(v.set (min at_ (sideF u at_)) (v.getD (min at_ (sideF u at_)) 0+v.getD (min at_ (sideF u at_)+1) 0)).eraseIdx (min at_ (sideF u at_)+1))::mendN (i+1) (2*i+3+3000) (u.set (nodeF u at_) (u.getD (nodeF u at_) 0 - 1)) Q (nodeF u at_)
namespace Tr
theorem mendN_snd:∀(Q:List UE) (i k0:Nat) (v:List Nat) (at_:Nat),(mendN i k0 v Q at_).map Prod.snd=mendU v (Q.map Prod.snd) at_
 | [],i,k0,v,at_=>by
  rw[List.map_nil,mendN,mendU]
  split<;>rfl
 | (k1,u)::Q,i,k0,v,at_=>by
  rw[List.map_cons,mendN,mendU]
  split
  ·rfl
  ·split
   ·rfl
   ·rw[List.map_cons,mendN_snd Q]
theorem mendN_nd:∀(Q:List UE) (i k0:Nat) (v:List Nat) (at_:Nat),(k0::Q.map Prod.fst).Nodup→(∀j,(j=2*i∨2*i+2≤j)→j≤2*i+2*Q.length+1→j+3000∉k0::Q.map Prod.fst)→
  ((mendN i k0 v Q at_).map Prod.fst).Nodup∧∀k∈(mendN i k0 v Q at_).map Prod.fst,k∈k0::Q.map Prod.fst∨∃j,(j=2*i∨2*i+2≤j)∧j≤2*i+2*Q.length+1∧k=j+3000
 | [],i,k0,v,at_,hn,hf=>by
  rw[mendN]
  split
  ·exact⟨List.nodup_nil,fun k hk=>by cases hk⟩
  ·exact⟨hn,fun k hk=>.inl hk⟩
 | (k1,u)::Q,i,k0,v,at_,hn,hf=>by
  rw[List.map_cons] at hn hf
  obtain⟨n1,n2⟩:=List.nodup_cons.1 hn
  obtain⟨n3,n4⟩:=List.nodup_cons.1 n2
  have hl:((k1,u)::Q).length=Q.length+1:=rfl
  rw[hl] at hf ⊢
  have f1:∀j,(j=2*i∨2*i+2≤j)→j≤2*i+2*(Q.length+1)+1→j+3000≠k0∧j+3000∉Q.map Prod.fst:=fun j h1 h2=>by
   have:=hf j h1 h2
   exact⟨fun e=>this (by rw[e];exact List.mem_cons_self),fun hm=>this (List.mem_cons_of_mem _ (List.mem_cons_of_mem _ hm))⟩
  have fa:=f1 (2*i) (.inl rfl) (by omega)
  have fb:=f1 (2*i+3) (.inr (by omega)) (by omega)
  have n5:k0∉Q.map Prod.fst:=fun hm=>n1 (List.mem_cons_of_mem _ hm)
  rw[mendN]
  split
  ·refine⟨List.nodup_cons.2 ⟨fun hm=>?_,List.nodup_cons.2 ⟨fb.2,n4⟩⟩,fun k hk=>?_⟩
   ·rcases List.mem_cons.1 hm with e | hm
    ·exact fb.1 e.symm
    ·exact n5 hm
   ·rcases List.mem_cons.1 hk with rfl | hk
    ·exact .inl List.mem_cons_self
    ·rcases List.mem_cons.1 hk with rfl | hk
     ·exact .inr ⟨2*i+3,.inr (by omega),by omega,rfl⟩
     ·exact .inl (List.mem_cons_of_mem _ (List.mem_cons_of_mem _ hk))
  ·split
   ·refine⟨List.nodup_cons.2 ⟨fun hm=>?_,List.nodup_cons.2 ⟨fb.2,n4⟩⟩,fun k hk=>?_⟩
    ·rcases List.mem_cons.1 hm with e | hm
     ·have e:2*i+3000=2*i+3+3000:=e
      omega
     ·exact fa.2 hm
    ·rcases List.mem_cons.1 hk with rfl | hk
     ·exact .inr ⟨2*i,.inl rfl,by omega,rfl⟩
     ·rcases List.mem_cons.1 hk with rfl | hk
      ·exact .inr ⟨2*i+3,.inr (by omega),by omega,rfl⟩
      ·exact .inl (List.mem_cons_of_mem _ (List.mem_cons_of_mem _ hk))
   ·obtain⟨g1,g2⟩:=mendN_nd Q (i+1) (2*i+3+3000) (u.set (nodeF u at_) (u.getD (nodeF u at_) 0 - 1)) (nodeF u at_) (List.nodup_cons.2 ⟨fb.2,n4⟩) (fun j h1 h2 hm=>by
     rcases List.mem_cons.1 hm with e | hm
     ·omega
     ·exact (f1 j (.inr (by omega)) (by omega)).2 hm)
    rw[List.map_cons]
    refine⟨List.nodup_cons.2 ⟨fun hm=>?_,g1⟩,fun k hk=>?_⟩
    ·rcases g2 _ hm with h | ⟨j,h1,h2,h3⟩
     ·rcases List.mem_cons.1 h with e | h
      ·have e:2*i+3000=2*i+3+3000:=e
       omega
      ·exact fa.2 h
     ·have h3:2*i+3000=j+3000:=h3
      omega
    ·rcases List.mem_cons.1 hk with rfl | hk
     ·exact .inr ⟨2*i,.inl rfl,by omega,rfl⟩
     ·rcases g2 k hk with h | ⟨j,h1,h2,h3⟩
      ·rcases List.mem_cons.1 h with e | h
       ·exact .inr ⟨2*i+3,.inr (by omega),by omega,e⟩
       ·exact .inl (List.mem_cons_of_mem _ (List.mem_cons_of_mem _ h))
      ·exact .inr ⟨j,.inr (by omega),by omega,h3⟩
end Tr
end Go.Proofs.Ythejollbijglcaa.Pm
end
namespace Go.Proofs.Ythejollbijglcaa.Pm
section
open Go.RowKit K
set_option maxRecDepth 100000
set_option maxRecDepth 100000
open Tr
theorem side_lt {u:List Nat} {at_:Nat} (hu:∀n∈u,2≤n) (hat:at_<u.sum):sideF u at_<u.sum∧sideF u at_≠at_∧min at_ (sideF u at_)+1<u.sum:=by
 obtain⟨n1,n2,n3⟩:=nodeF_spec u at_ hat
 have h1:=sum_take_le u (nodeF u at_+1)
 unfold sideF
 by_cases e:at_+1=(u.take (nodeF u at_+1)).sum
 ·have:=side_int hu hat e
  rw[if_pos e]
  omega
 ·rw[if_neg e]
  omega
theorem mendN_nm {Q P:List UE} {k0:Nat} {v:List Nat} {at_:Nat} {es:List LE} (hn:NmT es (P++(k0,v)::Q)) (hfr:∀j,(j=2*P.length∨2*P.length+2≤j)→j≤11→j+3000∉namesT es (P++(k0,v)::Q)) (hl:P.length+Q.length≤5):NmT es (P++mendN P.length k0 v Q at_):=by
 have hnd:=hn.nd
 rw[List.map_append,← List.append_assoc] at hnd
 obtain⟨d1,d2,d3⟩:=List.nodup_append.1 hnd
 have hsub:∀k∈k0::Q.map Prod.fst,k∈namesT es (P++(k0,v)::Q):=fun k hk=>List.mem_append_right _ (by rw[List.map_append];exact List.mem_append_right _ hk)
 have hsub2:∀k∈es.map LE.k++P.map Prod.fst,k∈namesT es (P++(k0,v)::Q):=fun k hk=>by
  rcases List.mem_append.1 hk with hk | hk
  ·exact List.mem_append_left _ hk
  ·exact List.mem_append_right _ (by rw[List.map_append];exact List.mem_append_left _ hk)
 obtain⟨g1,g2⟩:=mendN_nd Q P.length k0 v at_ d2 fun j h1 h2 hm=>hfr j h1 (by omega) (hsub _ hm)
 refine⟨?_,fun k hk=>?_⟩
 ·rw[List.map_append,← List.append_assoc]
  refine List.nodup_append.2 ⟨d1,g1,fun a ha b hb e=>?_⟩
  subst e
  rcases g2 a hb with h | ⟨j,j1,j2,rfl⟩
  ·exact d3 a ha a h rfl
  ·exact hfr j j1 (by omega) (hsub2 _ ha)
 ·rw[List.map_append,← List.append_assoc] at hk
  rcases List.mem_append.1 hk with hk | hk
  ·exact hn.inn k (hsub2 k hk)
  ·rcases g2 k hk with h | ⟨j,j1,j2,rfl⟩
   ·exact hn.inn k (hsub k h)
   ·exact in_new (by omega)
theorem s_mendU:∀(Q P:List UE) (k0:Nat) (v:List Nat) (at_:Nat) (es:List LE),NmT es (P++(k0,v)::Q)→(∀e∈es,e.ok)→(∀j,(j=2*P.length∨2*P.length+2≤j)→j≤11→j+3000∉namesT es (P++(k0,v)::Q))→P.length+Q.length≤5→es.length≤1000→
  at_<v.length→v.length≤64→(∀n∈v,1≤n∧n≤64)→chainQ v.length Q→
  NmT es (P++mendN P.length k0 v Q at_)∧CallS Try.prog 44 [.d (.ptr FK 0),pInt .i64 ((P.length+1:Nat):Int),pInt .i64 at_] [] (tIn es (P++(k0,v)::Q)) (.tup []) (tOut es (P++mendN P.length k0 v Q at_)):=by
 intro Q
 induction Q with
 | nil=>
  intro P k0 v at_ es hn hok hfr hl hel hat hv hm hc
  have hnm:=mendN_nm (at_:=at_) hn hfr hl
  refine⟨hnm,?_⟩
  have:=s_mendT P k0 v at_ es hn hok (by omega) hel hat hv hm
  have e:P++mendN P.length k0 v [] at_=if v.getD at_ 0=1 then P else P++[(k0,v)]:=by
   rw[mendN]
   split
   ·rw[List.append_nil]
   ·rfl
  rw[e];exact this
 | cons q Q ih=>
  obtain⟨k1,u⟩:=q
  intro P k0 v at_ es hn hok hfr hl hel hat hv hm hc
  have hnm:=mendN_nm (at_:=at_) hn hfr hl
  refine⟨hnm,?_⟩
  obtain⟨hu,hus,hv64,hcQ⟩:=hc
  have hl:P.length+(Q.length+1)≤5:=hl
  have hP:(P++[(k0,v)]).length=P.length+1:=by simp
  have eus:P++(k0,v)::(k1,u)::Q=(P++[(k0,v)])++(k1,u)::Q:=by simp
  have hat':at_<u.sum:=by omega
  have hu2:∀n∈u,2≤n:=fun n hn=>(hu n hn).1
  obtain⟨s1,s2,s3⟩:=side_lt hu2 hat'
  have hul:u.length≤64:=by have:=two_sum hu;omega
  have hx:2*P.length+3+3000∈nT:=in_new (k:=2*P.length+3) (by omega)
  have hxn:=hfr (2*P.length+3) (.inr (by omega)) (by omega)
  have hy:2*P.length+3000∈nT:=in_new (k:=2*P.length) (by omega)
  have hyn:=hfr (2*P.length) (.inl rfl) (by omega)
  have gz:∀a,a<v.length→CallS Try.prog 63 [.d (.ptr FK 0),pInt .i64 ((P++[(k0,v)]).length:Nat),pInt .i64 a] (tIn es ((P++[(k0,v)])++(k1,u)::Q)) [] (pInt .i64 (v.getD a 0:Nat)) []:=fun a ha=>by
   have:=s_sizeU hn hok P.length (by omega) v (by rw[List.map_append];exact get_mid2 (by rw[List.length_map])) a ha
   rw[hP,← eus,show v.getD a 0=v[a] by rw[List.getD_eq_getElem?_getD,List.getElem?_eq_getElem ha];rfl]
   exact this
  rw[← hP]
  by_cases c1:2≤v.getD at_ 0
  ·have:=s_mendA es (P++[(k0,v)]) Q k1 u at_ (2*P.length+3+3000) (fun a=>v.getD a 0) (by rw[← eus];exact hn) hok hx (by rw[← eus];exact hxn) (by rw[hP];omega) hel (gz at_ hat) c1
   rw[← eus] at this
   rw[mendN,if_pos c1]
   rw[List.append_assoc] at this
   exact this
  ·have hsz:=gz at_ hat
   have hsz2:=gz (sideF u at_) (by omega)
   have hn':=hn
   rw[eus] at hn'
   have hxn':=hxn
   rw[eus] at hxn'
   have xren:∀w:List Nat,2*P.length+3+3000∉namesT es (P++(2*P.length+3000,w)::(k1,u)::Q):=fun w hm=>by
    simp only[namesT,List.mem_append,List.map_append,List.map_cons,List.mem_cons] at hm hxn
    rcases hm with h | h | h | h
    ·exact hxn (.inl h)
    ·exact hxn (.inr (.inl h))
    ·omega
    ·exact hxn (.inr (.inr (.inr h)))
   by_cases c2:2<v.getD (sideF u at_) 0
   ·obtain⟨w,hw⟩:∃w,w=(v.set (sideF u at_) (v.getD (sideF u at_) 0 - 1)).set at_ (v.getD at_ 0+1):=⟨_,rfl⟩
    have hh:=s_handU P ((k1,u)::Q) k0 v (sideF u at_) at_ es hn hy hyn (by show P.length+1+(Q.length+1)≤20;omega) hel (by omega) hat s2 hv hm
    rw[← hw] at hh
    have e2:P++(2*P.length+3000,w)::(k1,u)::Q=(P++[(2*P.length+3000,w)])++(k1,u)::Q:=by simp
    rw[eus,e2,← hP] at hh
    have:=s_mendB es es (P++[(k0,v)]) (P++[(2*P.length+3000,w)]) Q k1 u at_ (2*P.length+3+3000) (fun a=>v.getD a 0) hn' hok hx hxn' (by rw[hP];omega) hel hu hul hat' (by omega) hsz c1 hsz2 c2 (by rw[← e2];exact nm_ren w hn hy hyn) (by rw[← e2];exact xren w) hh
    rw[mendN,if_neg c1,if_pos c2,← hw]
    rw[← eus,List.append_assoc] at this
    exact this
   ·obtain⟨w,hw⟩:∃w,w=(v.set (min at_ (sideF u at_)) (v.getD (min at_ (sideF u at_)) 0+v.getD (min at_ (sideF u at_)+1) 0)).eraseIdx (min at_ (sideF u at_)+1):=⟨_,rfl⟩
    have hj:=s_joinU P ((k1,u)::Q) k0 v (min at_ (sideF u at_)) es hn hy hyn (by show P.length+1+(Q.length+1)≤20;omega) hel (by omega) hv hm
    rw[← hw] at hj
    have e2:P++(2*P.length+3000,w)::(k1,u)::Q=(P++[(2*P.length+3000,w)])++(k1,u)::Q:=by simp
    rw[eus,e2,← hP] at hj
    have hPJ:(P++[(2*P.length+3000,w)]).length=P.length+1:=by simp
    obtain⟨n1,n2,n3⟩:=nodeF_spec u at_ hat'
    obtain⟨u',hu'⟩:∃u',u'=u.set (nodeF u at_) (u.getD (nodeF u at_) 0 - 1):=⟨_,rfl⟩
    have hu'l:u'.length=u.length:=by rw[hu',List.length_set]
    have hnJ:NmT es ((P++[(2*P.length+3000,w)])++(k1,u)::Q):=by rw[← e2];exact nm_ren w hn hy hyn
    have hxJ:2*P.length+3+3000∉namesT es ((P++[(2*P.length+3000,w)])++(k1,u)::Q):=by rw[← e2];exact xren w
    have hn5:=nm_ren u' hnJ hx hxJ
    have hfr5:∀j,(j=2*(P++[(2*P.length+3000,w)]).length∨2*(P++[(2*P.length+3000,w)]).length+2≤j)→j≤11→j+3000∉namesT es ((P++[(2*P.length+3000,w)])++(2*P.length+3+3000,u')::Q):=fun j h1 h2 hm=>by
     rw[hPJ] at h1
     have h0:=hfr j (.inr (by omega)) h2
     simp only[namesT,List.mem_append,List.map_append,List.map_cons,List.mem_cons,List.map_nil,List.not_mem_nil,or_false] at hm h0
     rcases hm with h | (h | h) | h | h
     ·exact h0 (.inl h)
     ·exact h0 (.inr (.inl h))
     ·omega
     ·omega
     ·exact h0 (.inr (.inr (.inr (.inr h))))
    have hm5:∀n∈u',1≤n∧n≤64:=fun n hn=>by
     rw[hu'] at hn
     rcases List.mem_or_eq_of_mem_set hn with h | h
     ·have:=hu n h;omega
     ·have hq:=hu _ (List.getElem_mem n1)
      rw[h,List.getD_eq_getElem?_getD,List.getElem?_eq_getElem n1]
      show 1≤u[nodeF u at_] - 1∧u[nodeF u at_] - 1≤64
      omega
    obtain⟨r1,r2⟩:=ih (P++[(2*P.length+3000,w)]) (2*P.length+3+3000) u' (nodeF u at_) es hn5 hok hfr5 (by rw[hPJ];omega) hel (by rw[hu'l];exact n1) (by rw[hu'l];exact hul) hm5 (by rw[hu'l];exact hcQ)
    obtain⟨g1,g2⟩:=mendN_nd Q (P.length+1) (2*P.length+3+3000) u' (nodeF u at_) (by
     have:=hn5.nd
     rw[List.map_append,← List.append_assoc] at this
     exact (List.nodup_append.1 this).2.1) (fun j h1 h2 hm=>hfr5 j (by rw[hPJ];exact h1) (by omega) (List.mem_append_right _ (by rw[List.map_append];exact List.mem_append_right _ hm)))
    rw[hPJ] at r1 r2
    have:=s_mendC es es es (P++[(k0,v)]) (P++[(2*P.length+3000,w)]) Q _ k1 u at_ (2*P.length+3+3000) (fun a=>v.getD a 0) hn' hok hx hxn' (by rw[hP];omega) hel hu hul hat' (by omega) hsz c1 hsz2 c2 hnJ hxJ (by rw[hPJ,hP]) hj (by rw[hP,← hu'];exact r2) r1 (fun k hk hk2=>by
     simp only[namesT,List.mem_append,List.map_append,List.map_cons,List.mem_cons,List.map_nil,List.not_mem_nil,or_false] at hk ⊢
     rcases hk with h | (h | h) | h
     ·exact .inl h
     ·exact .inr (.inl (.inl h))
     ·exact .inr (.inl (.inr h))
     ·rcases g2 k h with h | ⟨j,j1,j2,h⟩
      ·rcases List.mem_cons.1 h with h | h
       ·rw[h] at hk2;exact absurd hk2 hxn'
       ·exact .inr (.inr h)
      ·rw[h,← eus] at hk2
       exact absurd hk2 (hfr j (.inr (by omega)) (by omega)))
    rw[mendN,if_neg c1,if_neg c2,← hw,← hu']
    rw[← eus,List.append_assoc] at this
    exact this
end
section
open Go.RowKit K
set_option maxRecDepth 100000
set_option maxRecDepth 100000
open Tr
theorem s_mendT0 (at_:Nat) (es:List LE) {e0:LE} (he0:es[at_]? = some e0) (hl0:e0.val.length≤1000) (hn:NmT es []) (hok:∀e∈es,e.ok) (hel:es.length≤1000) :
  CallS Try.prog 44 [.d (.ptr FK 0),pInt .i64 0,pInt .i64 at_] [] (tIn es []) (.tup []) (tOut es []):=by
 obtain⟨us,hus⟩:∃us:List UE,us=[]:=⟨_,rfl⟩
 rw[← hus] at hn ⊢
 have husl:us.length=0:=by rw[hus];rfl
 have hat:at_<es.length:=(List.getElem?_eq_some_iff.1 he0).1
 have sz:=s_size0 hn hok at_ he0 hl0
 refine callS_sem Try.func44 (by rfl) rfl (by kernel_rfl) (by rfl) ([FK,FK1,FK2]++namesT es us) (fun k hk=>by rw[List.nil_append,tIn_keys] at hk;exact hk) ?_
 refine Smc.cut (le:=[(0,.d (.ptr FK 0)),(1,pInt .i64 0),(2,pInt .i64 at_)])
  (lh:=[(FK,.box 61 [.arr FK1 28 1 0 es.length,.arr FK2 54 1 0 0]),(FK1,.darr 28 1 (es.map LE.row)),(FK2,.darr 54 1 (us.map urow))]++famT es us) (m:=ksF [])
  (wk_all hn (fun q hq=>by subst hus;exact hq) ⟨⟨rfl,rfl,rfl⟩,.inl rfl,.inl rfl,trivial⟩) ?_
 have hR:=nm_fam hn
 have look:∀q∈famT es us,hpL ([(FK,.box 61 [.arr FK1 28 1 0 es.length,.arr FK2 54 1 0 0]),(FK1,.darr 28 1 (es.map LE.row)),(FK2,.darr 54 1 (us.map urow))]++famT es us) q.1=some q.2:=fun q hq=>hR.past rfl hq
 refine Smc.seqs ?_
 refine Smc.seq rfl ?_
 ((conv=>whnf);repeat' ((first|(with_reducible first|apply a_|apply b_|apply c_)|((with_reducible first|apply d_|apply e_|apply f_|apply g_);focus first|omega|(simp only[q_]<;>omega))|((with_reducible first|apply i_|apply h_);focus first|omega|(simp only[q_]<;>omega))|((with_reducible apply h_);focus first|decide|kernel_rfl)|refine s_ (by decide) ?_|refine t_ (by decide) ?_|with_reducible first|apply l_|apply m_|apply n_|apply o_|refine p_ (fun _=>?_) (fun _=>?_))<;>(conv=>whnf)))
 refine Smc.cond rfl (fun _=>?_) (fun hb=>?_)
 ·refine Smc.seqs ?_
  refine Smc.seq rfl ?_
  ((conv=>whnf);repeat' ((first|(with_reducible first|apply a_|apply b_|apply c_)|((with_reducible first|apply d_|apply e_|apply f_|apply g_);focus first|omega|(simp only[q_]<;>omega))|((with_reducible first|apply i_|apply h_);focus first|omega|(simp only[q_]<;>omega))|((with_reducible apply h_);focus first|decide|kernel_rfl)|refine s_ (by decide) ?_|refine t_ (by decide) ?_|with_reducible first|apply l_|apply m_|apply n_|apply o_|refine p_ (fun _=>?_) (fun _=>?_))<;>(conv=>whnf)))
  refine ro_id sz hn (has_of ?_ rfl rfl (fun e he=>?_) (fun p hp=>?_)) (fun rf=>?_)
  ·rw[husl];rfl
  ·have hm:e.fam∈famT es us:=List.mem_append_left _ (List.mem_map.2 ⟨e,he,rfl⟩)
   have hb:=(hR.keys e.fam hm).1
   repeat refine app_fam rfl hb ?_
   exact look e.fam hm
  ·have hm:ufam p∈famT es us:=List.mem_append_right _ (List.mem_map.2 ⟨p,hp,rfl⟩)
   have hb:=(hR.keys (ufam p) hm).1
   repeat refine app_fam rfl hb ?_
   exact look (ufam p) hm
  ((conv=>whnf);repeat' ((first|(with_reducible first|apply a_|apply b_|apply c_)|((with_reducible first|apply d_|apply e_|apply f_|apply g_);focus first|omega|(simp only[q_]<;>omega))|((with_reducible first|apply i_|apply h_);focus first|omega|(simp only[q_]<;>omega))|((with_reducible apply h_);focus first|decide|kernel_rfl)|refine s_ (by decide) ?_|refine t_ (by decide) ?_|with_reducible first|apply l_|apply m_|apply n_|apply o_|refine p_ (fun _=>?_) (fun _=>?_))<;>(conv=>whnf)))
  ·rename_i hv1
   refine Smc.cond rfl (fun ht=>?_) (fun ht=>?_)
   ·cases ht
   ·refine Smc.of rfl ?_
    ((conv=>whnf);repeat' ((first|(with_reducible first|apply a_|apply b_|apply c_)|((with_reducible first|apply d_|apply e_|apply f_|apply g_);focus first|omega|(simp only[q_]<;>omega))|((with_reducible first|apply i_|apply h_);focus first|omega|(simp only[q_]<;>omega))|((with_reducible apply h_);focus first|decide|kernel_rfl)|refine s_ (by decide) ?_|refine t_ (by decide) ?_|with_reducible first|apply l_|apply m_|apply n_|apply o_|refine p_ (fun _=>?_) (fun _=>?_))<;>(conv=>whnf)))
    refine Smc.of rfl ?_
    ((conv=>whnf);repeat' ((first|(with_reducible first|apply a_|apply b_|apply c_)|((with_reducible first|apply d_|apply e_|apply f_|apply g_);focus first|omega|(simp only[q_]<;>omega))|((with_reducible first|apply i_|apply h_);focus first|omega|(simp only[q_]<;>omega))|((with_reducible apply h_);focus first|decide|kernel_rfl)|refine s_ (by decide) ?_|refine t_ (by decide) ?_|with_reducible first|apply l_|apply m_|apply n_|apply o_|refine p_ (fun _=>?_) (fun _=>?_))<;>(conv=>whnf)))
    refine ret_all hn (List.Sublist.refl _) FK1 FK2 rfl rfl (has_of ?_ rfl rfl (fun e he=>?_) (fun p hp=>?_))
    ·rw[husl];rfl
    ·have hm:e.fam∈famT es us:=List.mem_append_left _ (List.mem_map.2 ⟨e,he,rfl⟩)
     have hb:=(hR.keys e.fam hm).1
     repeat refine app_fam rfl hb ?_
     exact look e.fam hm
    ·have hm:ufam p∈famT es us:=List.mem_append_right _ (List.mem_map.2 ⟨p,hp,rfl⟩)
     have hb:=(hR.keys (ufam p) hm).1
     repeat refine app_fam rfl hb ?_
     exact look (ufam p) hm
  ·rename_i hv1
   refine Smc.cond rfl (fun ht=>?_) (fun ht=>?_)
   ·cases ht
   ·refine Smc.of rfl ?_
    ((conv=>whnf);repeat' ((first|(with_reducible first|apply a_|apply b_|apply c_)|((with_reducible first|apply d_|apply e_|apply f_|apply g_);focus first|omega|(simp only[q_]<;>omega))|((with_reducible first|apply i_|apply h_);focus first|omega|(simp only[q_]<;>omega))|((with_reducible apply h_);focus first|decide|kernel_rfl)|refine s_ (by decide) ?_|refine t_ (by decide) ?_|with_reducible first|apply l_|apply m_|apply n_|apply o_|refine p_ (fun _=>?_) (fun _=>?_))<;>(conv=>whnf)))
    refine Smc.of rfl ?_
    ((conv=>whnf);repeat' ((first|(with_reducible first|apply a_|apply b_|apply c_)|((with_reducible first|apply d_|apply e_|apply f_|apply g_);focus first|omega|(simp only[q_]<;>omega))|((with_reducible first|apply i_|apply h_);focus first|omega|(simp only[q_]<;>omega))|((with_reducible apply h_);focus first|decide|kernel_rfl)|refine s_ (by decide) ?_|refine t_ (by decide) ?_|with_reducible first|apply l_|apply m_|apply n_|apply o_|refine p_ (fun _=>?_) (fun _=>?_))<;>(conv=>whnf)))
    refine ret_all hn (List.Sublist.refl _) FK1 FK2 rfl rfl (has_of ?_ rfl rfl (fun e he=>?_) (fun p hp=>?_))
    ·rw[husl];rfl
    ·have hm:e.fam∈famT es us:=List.mem_append_left _ (List.mem_map.2 ⟨e,he,rfl⟩)
     have hb:=(hR.keys e.fam hm).1
     repeat refine app_fam rfl hb ?_
     exact look e.fam hm
    ·have hm:ufam p∈famT es us:=List.mem_append_right _ (List.mem_map.2 ⟨p,hp,rfl⟩)
     have hb:=(hR.keys (ufam p) hm).1
     repeat refine app_fam rfl hb ?_
     exact look (ufam p) hm
 ·exact absurd rfl (of_decide_eq_false hb)
end
end Go.Proofs.Ythejollbijglcaa.Pm
section
namespace Go.Proofs.Ythejollbijglcaa.Pm
open Go.RowKit K
set_option maxRecDepth 100000
set_option maxRecDepth 100000
open Tr
namespace Tr
abbrev ks2 (k0 k1:Nat):List (Nat×Nat):=[(800,k0),(801,k1)]
theorem wk_two {A B:List LE} {us:List UE} {k0 k1:Nat} {a b:List PairD} (hn:NmT (A++mkL k0 a::mkL k1 b::B) us) (N:Nat) (hN:N=A.length+2+B.length) {e:Env} {le:List (Nat×PV)} (he:PLes (fnL (mR (Fl (ks2 k0 k1)) (ksF (ks2 k0 k1)))) (ksF (ks2 k0 k1)) e le) :
  Wk ([FK,FK1,FK2]++namesT (A++mkL k0 a::mkL k1 b::B) us) e (hpL (tIn (A++mkL k0 a::mkL k1 b::B) us)) le
   ([(FK,.box 61 [.arr FK1 28 1 0 N,.arr FK2 54 1 0 us.length]),(FK1,.darr 28 1 ((A++mkL 800 a::mkL 801 b::B).map LE.row)),(FK2,.darr 54 1 (us.map urow)),(800,leafH a),(801,leafH b)]++famT (A++B) us) (ksF (ks2 k0 k1)):=by
 have hAB:(A++B).Sublist (A++mkL k0 a::mkL k1 b::B):=(List.Sublist.refl A).append ((List.sublist_cons_self _ _).trans (List.sublist_cons_self _ _))
 have hnAB:NmT (A++B) us:=nm_sub hn hAB (List.Sublist.refl _)
 refine wk_in (ks2 k0 k1) rfl rfl rfl rfl hn (es2:=A++mkL 800 a::mkL 801 b::B) ?e2 (ump_fix rfl (us_in hn)) (fun k hk=>?nm) _ (fun q hq=>?lh) he rfl
 case e2=>
  rw[List.map_append,List.map_cons,List.map_cons,mp_fix rfl fun e he=>es_in hn e (List.mem_append_left _ he),mp_fix rfl fun e he=>es_in hn e (List.mem_append_right _ (List.mem_cons_of_mem _ (List.mem_cons_of_mem _ he)))];rfl
 case nm=>
  have:k=800∨k=801∨k∈namesT (A++B) us:=by
   simp only[namesT,List.mem_append,List.map_append,List.map_cons,List.mem_cons] at hk ⊢
   rcases hk with (h | h | h | h) | h
   ·exact .inr (.inr (.inl (.inl h)))
   ·exact .inl h
   ·exact .inr (.inl h)
   ·exact .inr (.inr (.inl (.inr h)))
   ·exact .inr (.inr (.inr h))
  rcases this with rfl | rfl | h
  ·exact List.mem_append_left _ (show 800∈[800,801] by decide)
  ·exact List.mem_append_left _ (show 801∈[800,801] by decide)
  ·exact List.mem_append_right _ (hnAB.inn k h)
 case lh=>
  rcases List.mem_append.1 hq with hq | hq
  ·simp only[List.mem_cons,List.not_mem_nil,or_false] at hq
   rcases hq with h | h | h | h | h
   ·exact List.mem_append_left _ (by rw[h,show N=(A++mkL 800 a::mkL 801 b::B).length by rw[hN];simp;omega];exact List.mem_cons_self)
   ·exact List.mem_append_left _ (by rw[h];simp)
   ·exact List.mem_append_left _ (by rw[h];simp)
   ·refine List.mem_append_right _ (List.mem_append_left _ ?_)
    rw[h,List.map_append]
    exact List.mem_append_right _ List.mem_cons_self
   ·refine List.mem_append_right _ (List.mem_append_left _ ?_)
    rw[h,List.map_append]
    exact List.mem_append_right _ (List.mem_cons_of_mem _ List.mem_cons_self)
  ·refine List.mem_append_right _ ?_
   rcases List.mem_append.1 hq with hq | hq
   ·refine List.mem_append_left _ ?_
    rw[List.map_append] at hq ⊢
    rcases List.mem_append.1 hq with hq | hq
    ·exact List.mem_append_left _ hq
    ·exact List.mem_append_right _ (List.mem_cons_of_mem _ (List.mem_cons_of_mem _ hq))
   ·exact List.mem_append_right _ hq
theorem ret_two {A B:List LE} {us:List UE} {k0 k1:Nat} {a b:List PairD} (hn:NmT (A++mkL k0 a::mkL k1 b::B) us) (h5:5000∉namesT (A++mkL k0 a::mkL k1 b::B) us∧5001∉namesT (A++mkL k0 a::mkL k1 b::B) us) (ht:5000∈nT∧5001∈nT)
  (e0 e1:LE) (l u y0 y1:Nat) (hd:nd [FK,l,u,y0,y1]=true) (hf:[FK,l,u,y0,y1].all farK=true) (q0:e0.k=5000) (q1:e1.k=5001)
  {h:Hp} (hh:Has h FK l u (A++(⟨y0,e0.lo,e0.n,e0.a⟩:LE)::(⟨y1,e1.lo,e1.n,e1.a⟩:LE)::B) us):RetS ([FK,FK1,FK2]++namesT (A++mkL k0 a::mkL k1 b::B) us) h (.tup []) (tOut (A++e0::e1::B) us) (.tup []):=by
 have hAB:(A++B).Sublist (A++mkL k0 a::mkL k1 b::B):=(List.Sublist.refl A).append ((List.sublist_cons_self _ _).trans (List.sublist_cons_self _ _))
 have hnAB:NmT (A++B) us:=nm_sub hn hAB (List.Sublist.refl _)
 have hsub:∀k∈namesT (A++B) us,k∈namesT (A++mkL k0 a::mkL k1 b::B) us:=fun k hk=>by
  simp only[namesT,List.mem_append,List.map_append,List.map_cons,List.mem_cons] at hk ⊢
  rcases hk with (h | h) | h
  ·exact .inl (.inl h)
  ·exact .inl (.inr (.inr (.inr h)))
  ·exact .inr h
 obtain⟨G,hG⟩:∃G,G=Fl [(NK1,l),(NK2,u),(5000,y0),(5001,y1)]:=⟨_,rfl⟩
 have G1:G NK1=l:=by rw[hG];exact Fl_hit
 have G2:G NK2=u:=by rw[hG,Fl_skip (by decide)];exact Fl_hit
 have G3:G 5000=y0:=by rw[hG,Fl_skip (by decide),Fl_skip (by decide)];exact Fl_hit
 have G4:G 5001=y1:=by rw[hG,Fl_skip (by decide),Fl_skip (by decide),Fl_skip (by decide)];exact Fl_hit
 have GN:∀k,k≠NK1→k≠NK2→k≠5000→k≠5001→G k=k:=fun k h1 h2 h3 h4=>by
  rw[hG]
  refine Fl_no fun p hp=>?_
  simp only[List.mem_cons,List.not_mem_nil,or_false] at hp
  rcases hp with rfl | rfl | rfl | rfl
  ·exact fun e=>h1 e.symm
  ·exact fun e=>h2 e.symm
  ·exact fun e=>h3 e.symm
  ·exact fun e=>h4 e.symm
 have GnT:∀k∈nT,k≠5000→k≠5001→G k=k:=fun k hk h3 h4=>by
  have:=nT_big k hk
  exact GN k (by show _≠2000001;omega) (by show _≠2000002;omega) h3 h4
 have GF:∀k,k=FK∨k=FK1∨k=FK2→G k=k:=fun k hk=>by
  have hk:k=1000000∨k=1000001∨k=1000002:=hk
  exact GN k (by show _≠2000001;omega) (by show _≠2000002;omega) (by omega) (by omega)
 have Gi:∀k∈namesT (A++mkL k0 a::mkL k1 b::B) us,G k=k:=fun k hk=>GnT k (hn.inn k hk) (fun e=>h5.1 (by rw[← e];exact hk)) (fun e=>h5.2 (by rw[← e];exact hk))
 have gA:∀L:List LE,L.Sublist (A++B)→L.map (LE.mv G)=L:=fun L hL=>mv_same fun e he=>Gi _ (hsub _ (List.mem_append_left _ (List.mem_map.2 ⟨e,hL.subset he,rfl⟩)))
 have gu:us.map (umv G)=us:=umv_same fun p hp=>Gi _ (List.mem_append_right _ (List.mem_map.2 ⟨p,hp,rfl⟩))
 have ge:(A++e0::e1::B).map (LE.mv G)=A++(⟨y0,e0.lo,e0.n,e0.a⟩:LE)::(⟨y1,e1.lo,e1.n,e1.a⟩:LE)::B:=by
  rw[List.map_append,List.map_cons,List.map_cons,gA A (List.sublist_append_left _ _),gA B (List.sublist_append_right _ _)]
  show A++(⟨G e0.k,_,_,_⟩:LE)::(⟨G e1.k,_,_,_⟩:LE)::B=_
  rw[q0,q1,G3,G4]
 refine ret_has ([FK,FK1,FK2,NK1,NK2]++nT) G (GF _ (.inl rfl)) (us:=us) ?o1 (fun k hk=>?o2) (fun k hk=>?o3) ?o4 rfl
 case o1=>rw[ge,gu,G1,G2];exact hh
 case o2=>
  rcases List.mem_append.1 hk with hk | hk
  ·simp only[List.mem_cons,List.not_mem_nil,or_false] at hk
   exact⟨List.mem_append_left _ (by rcases hk with rfl | rfl | rfl<;>simp),GF k hk⟩
  ·exact⟨List.mem_append_right _ (hn.inn k hk),Gi k hk⟩
 case o3=>
  rcases List.mem_append.1 hk with hk | hk
  ·refine List.mem_append_left _ ?_
   simp only[List.mem_cons,List.not_mem_nil,or_false] at hk ⊢
   rcases hk with rfl | rfl | rfl<;>simp
  ·refine List.mem_append_right _ ?_
   simp only[namesT,List.mem_append,List.map_append,List.map_cons,List.mem_cons] at hk
   rcases hk with (h | h | h | h) | h
   ·exact hnAB.inn k (by simp only[namesT,List.mem_append,List.map_append];exact .inl (.inl h))
   ·rw[h,q0];exact ht.1
   ·rw[h,q1];exact ht.2
   ·exact hnAB.inn k (by simp only[namesT,List.mem_append,List.map_append];exact .inl (.inr h))
   ·exact hnAB.inn k (by simp only[namesT,List.mem_append,List.map_append];exact .inr h)
 case o4=>
  rw[← names_mv,ge,gu,G1,G2]
  refine nd_perm (lits:=[FK,l,u,y0,y1]) (names:=namesT (A++B) us) (List.perm_iff_count.2 fun q=>?_) hd hf hnAB.nd hnAB.inn
  simp only[namesT,List.count_append,List.map_append,List.map_cons,List.map_nil,List.count_cons,List.count_nil]
  omega
end Tr
end Go.Proofs.Ythejollbijglcaa.Pm
end
namespace Go.Proofs.Ythejollbijglcaa.Pm
section
open Go.RowKit K
set_option maxRecDepth 100000
set_option maxRecDepth 100000
open Tr
set_option maxHeartbeats 4000000 in
theorem s_hand0R (A B:List LE) (us:List UE) (k0 k1:Nat) (a b:List PairD) (hn:NmT (A++mkL k0 a::mkL k1 b::B) us) (h5:5000∉namesT (A++mkL k0 a::mkL k1 b::B) us∧5001∉namesT (A++mkL k0 a::mkL k1 b::B) us)
  (hel:A.length+2+B.length≤100) (hul:us.length≤20) (ha:0<a.length∧a.length≤4) (hb:0<b.length∧b.length≤4) :
  CallS Try.prog 64 [.d (.ptr FK 0),pInt .i64 0,pInt .i64 ((A.length+1:Nat):Int),pInt .i64 A.length] [] (tIn (A++mkL k0 a::mkL k1 b::B) us) (.tup [])
   (tOut (A++mkL 5000 (a++b.take 1)::(⟨5001,1,b.length - 1,b⟩:LE)::B) us):=by
 have hAB:(A++B).Sublist (A++mkL k0 a::mkL k1 b::B):=(List.Sublist.refl A).append ((List.sublist_cons_self _ _).trans (List.sublist_cons_self _ _))
 have hnAB:NmT (A++B) us:=nm_sub hn hAB (List.Sublist.refl _)
 refine callS_sem Try.func64 (by rfl) rfl (by kernel_rfl) (by rfl) ([FK,FK1,FK2]++namesT (A++mkL k0 a::mkL k1 b::B) us) (fun k hk=>by rw[List.nil_append,tIn_keys] at hk;exact hk) ?_
 refine Smc.cut (le:=[(0,.d (.ptr FK 0)),(1,pInt .i64 0),(2,pInt .i64 ((A.length+1:Nat):Int)),(3,pInt .i64 A.length)]) (m:=ksF (ks2 k0 k1)) (wk_two hn (A.length+2+B.length) rfl ⟨⟨rfl,rfl,rfl⟩,.inl rfl,.inl rfl,.inl rfl,trivial⟩) ?_
 refine Smc.of rfl ?_
 have r1:((A++mkL 800 a::mkL 801 b::B).map LE.row)[0+((A.length+1:Nat):Int).toNat]? = some [.arr 801 38 2 0 b.length]:=by
  rw[show 0+((A.length+1:Nat):Int).toNat=A.length+1 by omega,List.map_append,List.map_cons,List.map_cons]
  exact get_mid3 (by rw[List.length_map])
 have r2:((A++mkL 800 a::mkL 801 b::B).map LE.row)[0+((A.length:Nat):Int).toNat]? = some [.arr 800 38 2 0 a.length]:=by
  rw[show 0+((A.length:Nat):Int).toNat=A.length by omega,List.map_append,List.map_cons,List.map_cons]
  exact get_mid2 (by rw[List.length_map])
 have r3:((b.map PairD.c).map (List.map D.c))[0+Int.toNat 0]? = some ((b[0]'hb.1).c.map D.c):=by
  rw[show 0+Int.toNat 0=0 from rfl,List.getElem?_map,List.getElem?_map,List.getElem?_eq_getElem hb.1];rfl
 have r4:∀r,(((A++mkL 800 a::mkL 801 b::B).map LE.row).set (0+((A.length:Nat):Int).toNat) r)[0+((A.length+1:Nat):Int).toNat]? = some [.arr 801 38 2 0 b.length]:=fun r=>by
  rw[List.getElem?_set_ne (by omega)];exact r1
 have n2:(a.length+1)*24≤140737488355328:=by omega
 ((conv=>whnf);repeat' ((first|(with_reducible first|apply a_|apply b_|apply c_)|((with_reducible first|apply d_|apply e_|apply f_|apply g_);focus first|omega|(simp only[q_]<;>omega))|((with_reducible first|apply i_|apply h_);focus first|omega|(simp only[q_]<;>omega))|((with_reducible apply h_);focus first|decide|kernel_rfl)|refine s_ (by decide) ?_|refine t_ (by decide) ?_|(first|refine Row.mk _ r1 ?_|refine Row.mk _ r2 ?_|refine Row.mk _ r3 ?_|refine Need.by1 24 rfl n2 ?_|refine Row.mk _ (r4 _) ?_)|with_reducible first|apply l_|apply m_|apply n_|apply o_|refine p_ (fun _=>?_) (fun _=>?_))<;>(conv=>whnf)))
 have hR:=nm_fam hnAB
 have look:∀q∈famT (A++B) us,hpL ([(FK,.box 61 [.arr FK1 28 1 0 (A.length+2+B.length),.arr FK2 54 1 0 us.length]),(FK1,.darr 28 1 ((A++mkL 800 a::mkL 801 b::B).map LE.row)),(FK2,.darr 54 1 (us.map urow)),(800,leafH a),(801,leafH b)]++famT (A++B) us) q.1=some q.2:=fun q hq=>hR.past rfl hq
 obtain⟨b0,b',rfl⟩:∃b0 b',b=b0::b':=by
  cases b with
  | nil=>simp at hb
  | cons x y=>exact⟨x,y,rfl⟩
 refine ret_two hn h5 (by decide) (mkL 5000 (a++[b0])) ⟨5001,1,b'.length,b0::b'⟩ FK1 FK2 76 801 rfl rfl rfl rfl (has_of ?_ ?_ rfl (fun e he=>?_) (fun p hp=>?_))
 ·rw[show ∀x y:LE,(A++x::y::B).length=A.length+2+B.length from fun x y=>by rw[List.length_append,List.length_cons,List.length_cons];omega];rfl
 ·refine congrArg (fun r=>some (HB.darr 28 1 r)) ?_
  rw[List.map_append,List.map_append,List.map_cons,List.map_cons,List.map_cons,List.map_cons]
  rw[show 0+((A.length:Nat):Int).toNat=A.length by omega,show 0+((A.length+1:Nat):Int).toNat=A.length+1 by omega]
  rw[set_mid2 (by rw[List.length_map]),set_mid3 (by rw[List.length_map])]
  refine congrArg (fun z=>A.map LE.row++z) ?_
  show [D.arr 76 _ 2 0 (a.length+1)]::[D.arr 801 _ 2 1 (((b'.length+1:Nat):Int).toNat - 1)]::_=[D.arr 76 _ 2 0 (a++[b0]).length]::[D.arr 801 _ 2 1 b'.length]::_
  rw[List.length_append,show ((b'.length+1:Nat):Int).toNat - 1=b'.length by omega];rfl
 ·have he':e=(⟨76,0,(a++[b0]).length,a++[b0]⟩:LE)∨e=(⟨801,1,b'.length,b0::b'⟩:LE)∨e∈A++B:=by
   simp only[List.mem_append,List.mem_cons] at he ⊢
   rcases he with h | h | h | h
   ·exact .inr (.inr (.inl h))
   ·exact .inl h
   ·exact .inr (.inl h)
   ·exact .inr (.inr (.inr h))
  rcases he' with rfl | rfl | he
  ·refine (leaf_eq ?_:_)
   rw[List.take_of_length_le (by rw[List.length_map,List.length_map];exact Nat.le_refl _)]
   show _=((a++[b0]).map PairD.c).map (List.map D.c)
   rw[List.map_append,List.map_append];rfl
  ·rfl
  ·have hm:e.fam∈famT (A++B) us:=List.mem_append_left _ (List.mem_map.2 ⟨e,he,rfl⟩)
   have hb:=(hR.keys e.fam hm).1
   repeat refine app_fam rfl hb ?_
   exact look e.fam hm
 ·have hm:ufam p∈famT (A++B) us:=List.mem_append_right _ (List.mem_map.2 ⟨p,hp,rfl⟩)
  have hb:=(hR.keys (ufam p) hm).1
  repeat refine app_fam rfl hb ?_
  exact look (ufam p) hm
end
section
open Go.RowKit K
set_option maxRecDepth 100000
set_option maxRecDepth 100000
open Tr
set_option maxHeartbeats 4000000 in
theorem s_hand0L (A B:List LE) (us:List UE) (k0 k1:Nat) (a b:List PairD) (x:PairD) (hn:NmT (A++mkL k0 (a++[x])::mkL k1 b::B) us) (h5:5000∉namesT (A++mkL k0 (a++[x])::mkL k1 b::B) us∧5001∉namesT (A++mkL k0 (a++[x])::mkL k1 b::B) us)
  (hel:A.length+2+B.length≤100) (hul:us.length≤20) (ha:a.length≤4) (hb:0<b.length∧b.length≤4) :
  CallS Try.prog 64 [.d (.ptr FK 0),pInt .i64 0,pInt .i64 A.length,pInt .i64 ((A.length+1:Nat):Int)] [] (tIn (A++mkL k0 (a++[x])::mkL k1 b::B) us) (.tup [])
   (tOut (A++(⟨5000,0,a.length,a++[x]⟩:LE)::mkL 5001 (x::b)::B) us):=by
 obtain⟨a',ha'⟩:∃a',a'=a++[x]:=⟨_,rfl⟩
 have hal:a'.length=a.length+1:=by rw[ha',List.length_append];rfl
 have hax:a'[a.length]'(by omega)=x:=by simp[ha']
 rw[← ha'] at hn h5 ⊢
 have hAB:(A++B).Sublist (A++mkL k0 a'::mkL k1 b::B):=(List.Sublist.refl A).append ((List.sublist_cons_self _ _).trans (List.sublist_cons_self _ _))
 have hnAB:NmT (A++B) us:=nm_sub hn hAB (List.Sublist.refl _)
 refine callS_sem Try.func64 (by rfl) rfl (by kernel_rfl) (by rfl) ([FK,FK1,FK2]++namesT (A++mkL k0 a'::mkL k1 b::B) us) (fun k hk=>by rw[List.nil_append,tIn_keys] at hk;exact hk) ?_
 refine Smc.cut (le:=[(0,.d (.ptr FK 0)),(1,pInt .i64 0),(2,pInt .i64 A.length),(3,pInt .i64 ((A.length+1:Nat):Int))]) (m:=ksF (ks2 k0 k1)) (wk_two hn (A.length+2+B.length) rfl ⟨⟨rfl,rfl,rfl⟩,.inl rfl,.inl rfl,.inl rfl,trivial⟩) ?_
 refine Smc.of rfl ?_
 have r1:((A++mkL 800 a'::mkL 801 b::B).map LE.row)[0+((A.length+1:Nat):Int).toNat]? = some [.arr 801 38 2 0 b.length]:=by
  rw[show 0+((A.length+1:Nat):Int).toNat=A.length+1 by omega,List.map_append,List.map_cons,List.map_cons]
  exact get_mid3 (by rw[List.length_map])
 have r2:((A++mkL 800 a'::mkL 801 b::B).map LE.row)[0+((A.length:Nat):Int).toNat]? = some [.arr 800 38 2 0 a'.length]:=by
  rw[show 0+((A.length:Nat):Int).toNat=A.length by omega,List.map_append,List.map_cons,List.map_cons]
  exact get_mid2 (by rw[List.length_map])
 have r3:((a'.map PairD.c).map (List.map D.c))[0+(((a'.length:Nat):Int) - 1).toNat]? = some (x.c.map D.c):=by
  rw[show 0+(((a'.length:Nat):Int) - 1).toNat=a.length by omega,List.getElem?_map,List.getElem?_map,List.getElem?_eq_getElem (by omega),hax];rfl
 have r4:∀r,(((A++mkL 800 a'::mkL 801 b::B).map LE.row).set (0+((A.length+1:Nat):Int).toNat) r)[0+((A.length:Nat):Int).toNat]? = some [.arr 800 38 2 0 a'.length]:=fun r=>by
  rw[List.getElem?_set_ne (by omega)];exact r2
 have hrl:((b.map PairD.c).map (List.map D.c)).length=b.length:=by rw[List.length_map,List.length_map]
 have si:=s_ins_pair ((b.map PairD.c).map (List.map D.c)) 0 (Nat.zero_le _) (by rw[hrl];omega) (by rw[hrl];omega) (hon_cs _ _ _ _) (x.c.map D.c) (hon_cs _ _ _ [x.c]) [] Fam.nil
 rw[hrl] at si
 ((conv=>whnf);repeat' ((first|(with_reducible first|apply a_|apply b_|apply c_)|((with_reducible first|apply d_|apply e_|apply f_|apply g_);focus first|omega|(simp only[q_]<;>omega))|((with_reducible first|apply i_|apply h_);focus first|omega|(simp only[q_]<;>omega))|((with_reducible apply h_);focus first|decide|kernel_rfl)|refine s_ (by decide) ?_|refine t_ (by decide) ?_|(first|refine Row.mk _ r1 ?_|refine Row.mk _ r2 ?_|refine Row.mk _ r3 ?_|refine EmpOr.emp ?_|refine Row.mk _ (r4 _) ?_)|with_reducible first|apply l_|apply m_|apply n_|apply o_|refine p_ (fun _=>?_) (fun _=>?_))<;>(conv=>whnf)))
 refine call_cs [(FK,801),(FK1,100),(NK,101)] si rfl rfl rfl rfl rfl (fun q hq=>?_) (fun y hy=>?_) (show NK∈[FK,FK1,NK] by decide) rfl (fun q hq=>?_) ?_
 ·simp only[List.cons_append,List.nil_append,List.mem_cons,List.not_mem_nil,or_false] at hq
  rcases hq with rfl | rfl | rfl
  ·exact hon_cs _ _ _ _
  ·exact hon_cs _ _ _ [x.c]
  ·exact hon_put (hon_cs _ 38 2 _) (hon_cs _ _ _ [x.c])
 ·simp only[List.mem_cons,List.not_mem_nil,or_false] at hy
  rcases hy with rfl | rfl | rfl
  ·show FK∈_;decide
  ·trivial
  ·show FK1∈_;decide
 ·simp only[List.mem_cons,List.not_mem_nil,or_false] at hq
  rcases hq with rfl | rfl<;>rfl
 ((conv=>whnf);repeat' ((first|(with_reducible first|apply a_|apply b_|apply c_)|((with_reducible first|apply d_|apply e_|apply f_|apply g_);focus first|omega|(simp only[q_]<;>omega))|((with_reducible first|apply i_|apply h_);focus first|omega|(simp only[q_]<;>omega))|((with_reducible apply h_);focus first|decide|kernel_rfl)|refine s_ (by decide) ?_|refine t_ (by decide) ?_|(first|refine Row.mk _ r1 ?_|refine Row.mk _ r2 ?_|refine Row.mk _ (r4 _) ?_)|with_reducible first|apply l_|apply m_|apply n_|apply o_|refine p_ (fun _=>?_) (fun _=>?_))<;>(conv=>whnf)))
 have hR:=nm_fam hnAB
 have look:∀q∈famT (A++B) us,hpL ([(FK,.box 61 [.arr FK1 28 1 0 (A.length+2+B.length),.arr FK2 54 1 0 us.length]),(FK1,.darr 28 1 ((A++mkL 800 a'::mkL 801 b::B).map LE.row)),(FK2,.darr 54 1 (us.map urow)),(800,leafH a'),(801,leafH b)]++famT (A++B) us) q.1=some q.2:=fun q hq=>hR.past rfl hq
 refine ret_two hn h5 (by decide) ⟨5000,0,a.length,a'⟩ (mkL 5001 (x::b)) FK1 FK2 800 101 rfl rfl rfl rfl (has_of ?_ ?_ rfl (fun e he=>?_) (fun p hp=>?_))
 ·rw[show ∀x y:LE,(A++x::y::B).length=A.length+2+B.length from fun x y=>by rw[List.length_append,List.length_cons,List.length_cons];omega];rfl
 ·refine congrArg (fun r=>some (HB.darr 28 1 r)) ?_
  rw[List.map_append,List.map_append,List.map_cons,List.map_cons,List.map_cons,List.map_cons]
  rw[show 0+((A.length:Nat):Int).toNat=A.length by omega,show 0+((A.length+1:Nat):Int).toNat=A.length+1 by omega]
  rw[set_mid3 (by rw[List.length_map]),set_mid2 (by rw[List.length_map])]
  refine congrArg (fun z=>A.map LE.row++z) ?_
  show [D.arr 800 _ 2 0 (((a'.length:Nat):Int) - 1).toNat]::[D.arr 101 _ 2 0 (b.length+1)]::_=[D.arr 800 _ 2 0 a.length]::[D.arr 101 _ 2 0 (x::b).length]::_
  rw[show (((a'.length:Nat):Int) - 1).toNat=a.length by omega];rfl
 ·have he':e=(⟨800,0,a.length,a'⟩:LE)∨e=(⟨101,0,(x::b).length,x::b⟩:LE)∨e∈A++B:=by
   simp only[List.mem_append,List.mem_cons] at he ⊢
   rcases he with h | h | h | h
   ·exact .inr (.inr (.inl h))
   ·exact .inl h
   ·exact .inr (.inl h)
   ·exact .inr (.inr (.inr h))
  rcases he' with rfl | rfl | he
  ·rfl
  ·rfl
  ·have hm:e.fam∈famT (A++B) us:=List.mem_append_left _ (List.mem_map.2 ⟨e,he,rfl⟩)
   have hb:=(hR.keys e.fam hm).1
   repeat refine app_fam rfl hb ?_
   exact look e.fam hm
 ·have hm:ufam p∈famT (A++B) us:=List.mem_append_right _ (List.mem_map.2 ⟨p,hp,rfl⟩)
  have hb:=(hR.keys (ufam p) hm).1
  repeat refine app_fam rfl hb ?_
  exact look (ufam p) hm
end
end Go.Proofs.Ythejollbijglcaa.Pm
section
namespace Go.Proofs.Ythejollbijglcaa.Pm
open Go.RowKit K
set_option maxRecDepth 100000
set_option maxRecDepth 100000
open Tr
namespace Tr
theorem ret_one {A B:List LE} {us:List UE} {k0 k1:Nat} {a b:List PairD} (hn:NmT (A++mkL k0 a::mkL k1 b::B) us) (h5:5000∉namesT (A++mkL k0 a::mkL k1 b::B) us) (ht:5000∈nT)
  (e0:LE) (l u y0:Nat) (hd:nd [FK,l,u,y0]=true) (hf:[FK,l,u,y0].all farK=true) (q0:e0.k=5000)
  {h:Hp} (hh:Has h FK l u (A++(⟨y0,e0.lo,e0.n,e0.a⟩:LE)::B) us):RetS ([FK,FK1,FK2]++namesT (A++mkL k0 a::mkL k1 b::B) us) h (.tup []) (tOut (A++e0::B) us) (.tup []):=by
 have hAB:(A++B).Sublist (A++mkL k0 a::mkL k1 b::B):=(List.Sublist.refl A).append ((List.sublist_cons_self _ _).trans (List.sublist_cons_self _ _))
 have hnAB:NmT (A++B) us:=nm_sub hn hAB (List.Sublist.refl _)
 have hsub:∀k∈namesT (A++B) us,k∈namesT (A++mkL k0 a::mkL k1 b::B) us:=fun k hk=>by
  simp only[namesT,List.mem_append,List.map_append,List.map_cons,List.mem_cons] at hk ⊢
  rcases hk with (h | h) | h
  ·exact .inl (.inl h)
  ·exact .inl (.inr (.inr (.inr h)))
  ·exact .inr h
 obtain⟨G,hG⟩:∃G,G=Fl [(NK1,l),(NK2,u),(5000,y0)]:=⟨_,rfl⟩
 have G1:G NK1=l:=by rw[hG];exact Fl_hit
 have G2:G NK2=u:=by rw[hG,Fl_skip (by decide)];exact Fl_hit
 have G3:G 5000=y0:=by rw[hG,Fl_skip (by decide),Fl_skip (by decide)];exact Fl_hit
 have GN:∀k,k≠NK1→k≠NK2→k≠5000→G k=k:=fun k h1 h2 h3=>by
  rw[hG]
  refine Fl_no fun p hp=>?_
  simp only[List.mem_cons,List.not_mem_nil,or_false] at hp
  rcases hp with rfl | rfl | rfl
  ·exact fun e=>h1 e.symm
  ·exact fun e=>h2 e.symm
  ·exact fun e=>h3 e.symm
 have GnT:∀k∈nT,k≠5000→G k=k:=fun k hk h3=>by
  have:=nT_big k hk
  exact GN k (by show _≠2000001;omega) (by show _≠2000002;omega) h3
 have GF:∀k,k=FK∨k=FK1∨k=FK2→G k=k:=fun k hk=>by
  have hk:k=1000000∨k=1000001∨k=1000002:=hk
  exact GN k (by show _≠2000001;omega) (by show _≠2000002;omega) (by omega)
 have Gi:∀k∈namesT (A++mkL k0 a::mkL k1 b::B) us,G k=k:=fun k hk=>GnT k (hn.inn k hk) (fun e=>h5 (by rw[← e];exact hk))
 have gA:∀L:List LE,L.Sublist (A++B)→L.map (LE.mv G)=L:=fun L hL=>mv_same fun e he=>Gi _ (hsub _ (List.mem_append_left _ (List.mem_map.2 ⟨e,hL.subset he,rfl⟩)))
 have gu:us.map (umv G)=us:=umv_same fun p hp=>Gi _ (List.mem_append_right _ (List.mem_map.2 ⟨p,hp,rfl⟩))
 have ge:(A++e0::B).map (LE.mv G)=A++(⟨y0,e0.lo,e0.n,e0.a⟩:LE)::B:=by
  rw[List.map_append,List.map_cons,gA A (List.sublist_append_left _ _),gA B (List.sublist_append_right _ _)]
  show A++(⟨G e0.k,_,_,_⟩:LE)::B=_
  rw[q0,G3]
 refine ret_has ([FK,FK1,FK2,NK1,NK2]++nT) G (GF _ (.inl rfl)) (us:=us) ?o1 (fun k hk=>?o2) (fun k hk=>?o3) ?o4 rfl
 case o1=>rw[ge,gu,G1,G2];exact hh
 case o2=>
  rcases List.mem_append.1 hk with hk | hk
  ·simp only[List.mem_cons,List.not_mem_nil,or_false] at hk
   exact⟨List.mem_append_left _ (by rcases hk with rfl | rfl | rfl<;>simp),GF k hk⟩
  ·exact⟨List.mem_append_right _ (hn.inn k hk),Gi k hk⟩
 case o3=>
  rcases List.mem_append.1 hk with hk | hk
  ·refine List.mem_append_left _ ?_
   simp only[List.mem_cons,List.not_mem_nil,or_false] at hk ⊢
   rcases hk with rfl | rfl | rfl<;>simp
  ·refine List.mem_append_right _ ?_
   simp only[namesT,List.mem_append,List.map_append,List.map_cons,List.mem_cons] at hk
   rcases hk with (h | h | h) | h
   ·exact hnAB.inn k (by simp only[namesT,List.mem_append,List.map_append];exact .inl (.inl h))
   ·rw[h,q0];exact ht
   ·exact hnAB.inn k (by simp only[namesT,List.mem_append,List.map_append];exact .inl (.inr h))
   ·exact hnAB.inn k (by simp only[namesT,List.mem_append,List.map_append];exact .inr h)
 case o4=>
  rw[← names_mv,ge,gu,G1,G2]
  refine nd_perm (lits:=[FK,l,u,y0]) (names:=namesT (A++B) us) (List.perm_iff_count.2 fun q=>?_) hd hf hnAB.nd hnAB.inn
  simp only[namesT,List.count_append,List.map_append,List.map_cons,List.map_nil,List.count_cons,List.count_nil]
  omega
end Tr
set_option maxHeartbeats 4000000 in
theorem s_join0 (A B:List LE) (us:List UE) (k0 k1:Nat) (a b:List PairD) (hn:NmT (A++mkL k0 a::mkL k1 b::B) us) (h5:5000∉namesT (A++mkL k0 a::mkL k1 b::B) us)
  (hel:A.length+2+B.length≤100) (hul:us.length≤20) (ha:a.length≤4) (hb:0<b.length∧b.length≤4) :
  CallS Try.prog 65 [.d (.ptr FK 0),pInt .i64 0,pInt .i64 A.length] [] (tIn (A++mkL k0 a::mkL k1 b::B) us) (.tup [])
   (tOut (A++mkL 5000 (a++b)::B) us):=by
 have hAB:(A++B).Sublist (A++mkL k0 a::mkL k1 b::B):=(List.Sublist.refl A).append ((List.sublist_cons_self _ _).trans (List.sublist_cons_self _ _))
 have hnAB:NmT (A++B) us:=nm_sub hn hAB (List.Sublist.refl _)
 refine callS_sem Try.func65 (by rfl) rfl (by kernel_rfl) (by rfl) ([FK,FK1,FK2]++namesT (A++mkL k0 a::mkL k1 b::B) us) (fun k hk=>by rw[List.nil_append,tIn_keys] at hk;exact hk) ?_
 refine Smc.cut (le:=[(0,.d (.ptr FK 0)),(1,pInt .i64 0),(2,pInt .i64 A.length)]) (m:=ksF (ks2 k0 k1)) (wk_two hn (A.length+2+B.length) rfl ⟨⟨rfl,rfl,rfl⟩,.inl rfl,.inl rfl,trivial⟩) ?_
 refine Smc.of rfl ?_
 have r1:((A++mkL 800 a::mkL 801 b::B).map LE.row)[0+(((A.length:Nat):Int)+1).toNat]? = some [.arr 801 38 2 0 b.length]:=by
  rw[show 0+(((A.length:Nat):Int)+1).toNat=A.length+1 by omega,List.map_append,List.map_cons,List.map_cons]
  exact get_mid3 (by rw[List.length_map])
 have r2:((A++mkL 800 a::mkL 801 b::B).map LE.row)[0+((A.length:Nat):Int).toNat]? = some [.arr 800 38 2 0 a.length]:=by
  rw[show 0+((A.length:Nat):Int).toNat=A.length by omega,List.map_append,List.map_cons,List.map_cons]
  exact get_mid2 (by rw[List.length_map])
 have q1:a.length≤((a.map PairD.c).map (List.map D.c)).length:=by rw[List.length_map,List.length_map];exact Nat.le_refl _
 have q2:0+b.length≤((b.map PairD.c).map (List.map D.c)).length:=by rw[List.length_map,List.length_map,Nat.zero_add];exact Nat.le_refl _
 have n2:(a.length+b.length)*24≤140737488355328:=by omega
 ((conv=>whnf);repeat' ((first|(with_reducible first|apply a_|apply b_|apply c_)|((with_reducible first|apply d_|apply e_|apply f_|apply g_);focus first|omega|(simp only[q_]<;>omega))|((with_reducible first|apply i_|apply h_);focus first|omega|(simp only[q_]<;>omega))|((with_reducible apply h_);focus first|decide|kernel_rfl)|refine s_ (by decide) ?_|refine t_ (by decide) ?_|(first|refine Row.mk _ r1 ?_|refine Row.mk _ r2 ?_|refine Need.by4 24 rfl ⟨hb.1,q1,q2,n2⟩ ?_)|with_reducible first|apply l_|apply m_|apply n_|apply o_|refine p_ (fun _=>?_) (fun _=>?_))<;>(conv=>whnf)))
 obtain⟨esR,hesR⟩:∃esR,esR=A++mkL 5000 (a++b)::mkL k1 b::B:=⟨_,rfl⟩
 obtain⟨es,hes⟩:∃es,es=A++mkL k0 a::mkL k1 b::B:=⟨_,rfl⟩
 have hk1:k1∈namesT es us:=List.mem_append_left _ (by rw[hes,List.map_append];exact List.mem_append_right _ (List.mem_cons_of_mem _ List.mem_cons_self))
 rw[← hes] at hn h5
 have hk1n:k1∉namesT (A++B) us:=by
  have hp:(namesT es us).Perm (k1::k0::namesT (A++B) us):=List.perm_iff_count.2 fun x=>by
   rw[hes]
   simp only[namesT,List.count_append,List.map_append,List.map_cons,List.count_cons,mkL_k]
   omega
  exact fun h=>(List.nodup_cons.1 (hp.nodup_iff.1 hn.nd)).1 (List.mem_cons_of_mem _ h)
 have nAB:∀k∈namesT (A++B) us,k∈namesT es us:=fun k hk=>by
  rw[hes]
  rcases List.mem_append.1 hk with hk | hk
  ·exact List.mem_append_left _ (List.Sublist.subset (hAB.map LE.k) hk)
  ·exact List.mem_append_right _ hk
 have hnR:NmT esR []:=by
  have hp:(namesT esR []).Perm (5000::k1::namesT (A++B) []):=List.perm_iff_count.2 fun x=>by
   rw[hesR]
   simp only[namesT,List.count_append,List.map_append,List.map_cons,List.count_cons,mkL_k]
   omega
  have hsub:∀k∈namesT (A++B) ([]:List UE),k∈namesT (A++B) us:=fun k hk=>by
   rcases List.mem_append.1 hk with hk | hk
   ·exact List.mem_append_left _ hk
   ·cases hk
  have hnAB0:NmT (A++B) []:=nm_sub hnAB (List.Sublist.refl _) (List.nil_sublist _)
  refine⟨hp.nodup_iff.2 (List.nodup_cons.2 ⟨fun hm=>?_,List.nodup_cons.2 ⟨fun hm=>hk1n (hsub _ hm),hnAB0.nd⟩⟩),fun k hk=>?_⟩
  ·rcases List.mem_cons.1 hm with e | hm
   ·exact h5 (by rw[e];exact hk1)
   ·exact h5 (nAB _ (hsub _ hm))
  ·rcases List.mem_cons.1 (hp.subset hk) with rfl | hk
   ·exact (by decide:5000∈nT)
   ·rcases List.mem_cons.1 hk with rfl | hk
    ·exact hn.inn _ hk1
    ·exact hnAB0.inn k hk
 have hRl:(esR.map LE.row).length=A.length+2+B.length:=by rw[List.length_map,hesR,List.length_append,List.length_cons,List.length_cons];omega
 have sd:=s_del_leaf (esR.map LE.row) (A.length+1) (by rw[hRl];omega) (by rw[hRl];omega) (fun r hr x hx=>on_imp (fun k hk=>hnR.inn k hk) (row_on esR [] r hr x hx)) (famT esR []) (nm_fam hnR)
 obtain⟨F,hF⟩:∃F,F=Fl [(FK,FK1),(NK,44),(5000,32),(k1,801)]:=⟨_,rfl⟩
 have hk1T:=hn.inn k1 hk1
 have hk1b:=nT_big k1 hk1T
 have k15:k1≠5000:=fun e=>h5 (by rw[← e];exact hk1)
 have FK_:F FK=FK1:=by rw[hF];rfl
 have NK_:F NK=44:=by rw[hF];rfl
 have F5:F 5000=32:=by rw[hF];rfl
 have F1:F k1=801:=by rw[hF,Fl_skip (by show k1≠1000000;omega),Fl_skip (by show k1≠2000000;omega),Fl_skip k15];exact Fl_hit
 have FN:∀k∈namesT (A++B) us,F k=k:=fun k hk=>by
  have hb:=nT_big k (hnAB.inn k hk)
  rw[hF]
  refine Fl_no fun p hp=>?_
  simp only[List.mem_cons,List.not_mem_nil,or_false] at hp
  rcases hp with rfl | rfl | rfl | rfl
  ·show 1000000≠k;omega
  ·show 2000000≠k;omega
  ·exact fun e=>h5 (by rw[show 5000=k from e];exact nAB k hk)
  ·exact fun e=>hk1n (by rw[show k1=k from e];exact hk)
 have eA:A.map (LE.mv F)=A:=mv_same fun e he=>FN _ (List.mem_append_left _ (List.mem_map.2 ⟨e,List.mem_append_left _ he,rfl⟩))
 have eB:B.map (LE.mv F)=B:=mv_same fun e he=>FN _ (List.mem_append_left _ (List.mem_map.2 ⟨e,List.mem_append_right _ he,rfl⟩))
 have ees:esR.map (LE.mv F)=A++mkL 32 (a++b)::mkL 801 b::B:=by
  rw[hesR,List.map_append,List.map_cons,List.map_cons,eA,eB]
  show A++(⟨F 5000,0,(a++b).length,a++b⟩:LE)::(⟨F k1,0,b.length,b⟩:LE)::B=_
  rw[F5,F1];rfl
 have hR:=nm_fam hnAB
 have look:∀q∈famT (A++B) us,hpL ([(FK,.box 61 [.arr FK1 28 1 0 (A.length+2+B.length),.arr FK2 54 1 0 us.length]),(FK1,.darr 28 1 ((A++mkL 800 a::mkL 801 b::B).map LE.row)),(FK2,.darr 54 1 (us.map urow)),(800,leafH a),(801,leafH b)]++famT (A++B) us) q.1=some q.2:=fun q hq=>hR.past rfl hq
 have hRk:(famT esR []).map Prod.fst=esR.map LE.k:=by
  rw[famT_keys]
  show esR.map LE.k++[]=_
  rw[List.append_nil]
 have hRin:∀k∈(famT esR []).map Prod.fst,k∈nT:=(nm_fam hnR).key
 have hRnd:((famT esR []).map Prod.fst).Nodup:=by rw[famT_keys];exact hnR.nd
 have farn:∀k∈(famT esR []).map Prod.fst,∀x∈[FK,NK],k≠x:=fun k hk x hx e=>by
  subst e
  exact farK_out (apart_far (l:=[FK,NK]) rfl k hx) (hRin k hk)
 have hon1:hon (·∈[FK,NK]++(famT esR []).map Prod.fst) (.darr 28 1 (esR.map LE.row)):=fun r hr x hx=>on_imp (fun k hk=>by
  rw[hRk]
  rcases List.mem_append.1 hk with hk | hk
  ·exact List.mem_append_right _ hk
  ·cases hk) (row_on esR [] r hr x hx)
 refine call_mp F sd ?d1 ?d2 ([FK,NK]++(famT esR []).map Prod.fst) (fun k=>?kk) (map_nd_inj ?inj) (fun q hq=>?hon) (fun x hx=>?hao) (show NK∈_ by simp) ?ha (fun q hq=>?hh) ?_
 case d1=>
  rw[List.map_append]
  exact List.nodup_append.2 ⟨hRnd,(show [FK].Nodup by decide),fun x hx y hy e=>farn x hx y (by
   have hy:y∈[FK]:=hy
   simp only[List.mem_cons,List.not_mem_nil,or_false] at hy ⊢
   exact .inl hy) e⟩
 case d2=>
  rw[List.map_append]
  exact List.nodup_append.2 ⟨hRnd,(show [NK].Nodup by decide),fun x hx y hy e=>farn x hx y (by
   have hy:y∈[NK]:=hy
   simp only[List.mem_cons,List.not_mem_nil,or_false] at hy ⊢
   exact .inr hy) e⟩
 case kk=>
  rw[List.map_append]
  simp only[List.mem_append,List.map_cons,List.map_nil,List.map_append,List.mem_cons,List.not_mem_nil,or_false]
  constructor
  ·rintro ((h | h) | h)
   ·exact .inr (.inl h)
   ·exact .inr (.inr h)
   ·exact .inl h
  ·rintro (h | h | h)
   ·exact .inr h
   ·exact .inl (.inl h)
   ·exact .inl (.inr h)
 case inj=>
  rw[List.map_append,hRk]
  have hm:(esR.map LE.k).map F=(A++mkL 32 (a++b)::mkL 801 b::B).map LE.k:=by
   rw[← ees,List.map_map,List.map_map];rfl
  rw[hm]
  show ([F FK,F NK]++_).Nodup
  rw[FK_,NK_]
  refine nd_perm (lits:=[FK1,44,32,801]) (names:=namesT (A++B) []) (List.perm_iff_count.2 fun x=>?_) rfl rfl (nm_sub hnAB (List.Sublist.refl _) (List.nil_sublist _)).nd (nm_sub hnAB (List.Sublist.refl _) (List.nil_sublist _)).inn
  simp only[namesT,List.count_append,List.map_append,List.map_cons,List.map_nil,List.count_cons,List.count_nil,mkL_k]
  omega
 case hon=>
  rcases List.mem_append.1 hq with hq | hq
  ·exact hon_imp (fun k (hk:False)=>hk.elim) (famT_no esR [] q hq)
  ·simp only[List.cons_append,List.nil_append,List.mem_cons,List.not_mem_nil,or_false] at hq
   rcases hq with rfl | rfl
   ·exact hon1
   ·exact hon_sub hon1 del_sub
 case hao=>
  simp only[List.mem_cons,List.not_mem_nil,or_false] at hx
  rcases hx with rfl | rfl | rfl
  ·show FK∈_;simp
  ·trivial
  ·trivial
 case ha=>
  show [PV.d (.arr (F FK) _ 1 0 _),_,_]=_
  rw[FK_,hRl];rfl
 case hh=>
  rcases List.mem_append.1 hq with hq | hq
  ·rcases List.mem_append.1 hq with hq | hq
   ·obtain⟨e,he,rfl⟩:=List.mem_map.1 hq
    show _=some (hmp F (leafH e.a))
    rw[hmp_leaf]
    show _=some (leafH e.a)
    rw[hesR] at he
    have hcase:e∈A++B∨e=mkL 5000 (a++b)∨e=mkL k1 b:=by
     simp only[List.mem_append,List.mem_cons] at he ⊢
     rcases he with h | h | h | h
     ·exact .inl (.inl h)
     ·exact .inr (.inl h)
     ·exact .inr (.inr h)
     ·exact .inl (.inr h)
    rcases hcase with he | rfl | rfl
    ·have hm:e.fam∈famT (A++B) us:=List.mem_append_left _ (List.mem_map.2 ⟨e,he,rfl⟩)
     have hb:=(hR.keys e.fam hm).1
     show _=_
     have hFe:F e.fam.1=e.k:=FN _ (List.mem_append_left _ (List.mem_map.2 ⟨e,he,rfl⟩))
     rw[hFe]
     repeat refine app_fam rfl hb ?_
     exact look e.fam hm
    ·rw[show (mkL 5000 (a++b)).fam.1=5000 from rfl,F5]
     refine (leaf_eq ?_:_)
     show ((a.map PairD.c).map (List.map D.c)).take a.length++(((b.map PairD.c).map (List.map D.c)).drop 0).take b.length=((a++b).map PairD.c).map (List.map D.c)
     rw[List.drop_zero,List.take_of_length_le (by rw[List.length_map,List.length_map];exact Nat.le_refl _),List.take_of_length_le (by rw[List.length_map,List.length_map];exact Nat.le_refl _),List.map_append,List.map_append]
    ·rw[show (mkL k1 b).fam.1=k1 from rfl,F1];rfl
   ·cases hq
  ·simp only[List.cons_append,List.nil_append,List.mem_cons,List.not_mem_nil,or_false] at hq
   subst hq
   show _=some (HB.darr 28 1 ((esR.map LE.row).map (List.map (mp F))))
   rw[row_mv,ees]
   show _=_
   rw[FK_]
   refine congrArg (fun r=>some (HB.darr 28 1 r)) ?_
   rw[List.map_append,List.map_append,List.map_cons,List.map_cons,List.map_cons,List.map_cons,show 0+((A.length:Nat):Int).toNat=A.length by omega,set_mid2 (by rw[List.length_map])]
   show _=A.map LE.row++[D.arr 32 _ 2 0 (a++b).length]::_
   rw[List.length_append];rfl
 have e_rf:List.map (qmp F) [(FK,HB.darr 28 1 (esR.map LE.row))]=[(FK1,HB.darr 28 1 ((A++mkL 32 (a++b)::mkL 801 b::B).map LE.row))]:=by
  show [(F FK,HB.darr 28 1 ((esR.map LE.row).map (List.map (mp F))))]=_
  rw[row_mv,ees,FK_]
 have e_out:List.map (qmp F) [(NK,HB.darr 28 1 ((esR.map LE.row).take (A.length+1)++(esR.map LE.row).drop (A.length+1+1)))]=[(44,HB.darr 28 1 ((A++mkL 32 (a++b)::B).map LE.row))]:=by
  show [(F NK,HB.darr 28 1 (((esR.map LE.row).take (A.length+1)++(esR.map LE.row).drop (A.length+1+1)).map (List.map (mp F))))]=_
  rw[List.map_append,List.map_take,List.map_drop,row_mv,ees,NK_]
  congr 3
  rw[← List.map_take,← List.map_drop,← List.map_append]
  congr 1
  rw[show A++mkL 32 (a++b)::mkL 801 b::B=(A++[mkL 32 (a++b)])++mkL 801 b::B by simp,List.take_left' (by simp),show (A++[mkL 32 (a++b)])++mkL 801 b::B=(A++[mkL 32 (a++b),mkL 801 b])++B by simp,List.drop_left' (by simp)]
  simp
 have e_res:pmp F (.d (.arr NK 28 1 0 ((esR.map LE.row).length - 1)))=.d (.arr 44 28 1 0 (A.length+1+B.length)):=by
  show PV.d (.arr (F NK) _ 1 0 _)=_
  rw[NK_,hRl,show A.length+2+B.length - 1=A.length+1+B.length by omega]
 rw[e_rf,e_out,e_res]
 have NF:∀q:Rf,∀k∈q.map Prod.fst,rfHas k ((famT esR []).map (qmp F)++q)=true:=fun q k hk=>rfHas_of (by rw[List.map_append];exact List.mem_append_right _ hk)
 refine newP_of (fun p hp=>?_) ?_
 ·have hp:p∈[(FK1,none),(44,some _)]:=hp
  simp only[List.mem_cons,List.not_mem_nil,or_false] at hp
  rcases hp with rfl | rfl
  ·exact .inl (NF _ FK1 (by simp))
  ·exact .inr rfl
 ((conv=>whnf);repeat' ((first|(with_reducible first|apply a_|apply b_|apply c_)|((with_reducible first|apply d_|apply e_|apply f_|apply g_);focus first|omega|(simp only[q_]<;>omega))|((with_reducible first|apply i_|apply h_);focus first|omega|(simp only[q_]<;>omega))|((with_reducible apply h_);focus first|decide|kernel_rfl)|refine s_ (by decide) ?_|refine t_ (by decide) ?_|with_reducible first|apply l_|apply m_|apply n_|apply o_|refine p_ (fun _=>?_) (fun _=>?_))<;>(conv=>whnf)))
 rw[hes] at hn h5
 refine ret_one hn h5 (by decide) (mkL 5000 (a++b)) 44 FK2 32 rfl rfl rfl (has_of ?_ rfl rfl (fun e he=>?_) (fun p hp=>?_))
 ·rw[show ∀x:LE,(A++x::B).length=A.length+1+B.length from fun x=>by rw[List.length_append,List.length_cons];omega];rfl
 ·have he':e=(⟨32,0,(a++b).length,a++b⟩:LE)∨e∈A++B:=by
   simp only[List.mem_append,List.mem_cons] at he ⊢
   rcases he with h | h | h
   ·exact .inr (.inl h)
   ·exact .inl h
   ·exact .inr (.inr h)
  rcases he' with rfl | he
  ·refine (leaf_eq ?_:_)
   show ((a.map PairD.c).map (List.map D.c)).take a.length++(((b.map PairD.c).map (List.map D.c)).drop 0).take b.length=((a++b).map PairD.c).map (List.map D.c)
   rw[List.drop_zero,List.take_of_length_le (by rw[List.length_map,List.length_map];exact Nat.le_refl _),List.take_of_length_le (by rw[List.length_map,List.length_map];exact Nat.le_refl _),List.map_append,List.map_append]
  ·have hm:e.fam∈famT (A++B) us:=List.mem_append_left _ (List.mem_map.2 ⟨e,he,rfl⟩)
   have hb:=(hR.keys e.fam hm).1
   repeat refine app_fam rfl hb ?_
   exact look e.fam hm
 ·have hm:ufam p∈famT (A++B) us:=List.mem_append_right _ (List.mem_map.2 ⟨p,hp,rfl⟩)
  have hb:=(hR.keys (ufam p) hm).1
  repeat refine app_fam rfl hb ?_
  exact look (ufam p) hm
end Go.Proofs.Ythejollbijglcaa.Pm
end
section
namespace Go.Proofs.Ythejollbijglcaa.Pm
open Go.RowKit K
set_option maxRecDepth 100000
set_option maxRecDepth 100000
open Tr
namespace Tr
theorem two_of {α:Type} (l:List α) (m:Nat) (h:m+1<l.length):∃A B x y,l=A++x::y::B∧A.length=m:=
 ⟨l.take m,l.drop (m+2),l[m],l[m+1],by
  rw[← List.drop_eq_getElem_cons,← List.drop_eq_getElem_cons,List.take_append_drop],by rw[List.length_take];omega⟩
theorem val_two {A B:List LE} {k0 k1:Nat} {a b:List PairD}:(A++mkL k0 a::mkL k1 b::B).map LE.val=A.map LE.val++[a,b]++B.map LE.val:=by
 rw[List.map_append,List.map_cons,List.map_cons,mkL_val,mkL_val];simp
theorem nm_two {A B:List LE} {us:List UE} {x y:LE} {e0 e1:LE} (h:NmT (A++x::y::B) us) (q0:e0.k=5000) (q1:e1.k=5001) (h5:5000∉namesT (A++x::y::B) us∧5001∉namesT (A++x::y::B) us):NmT (A++e0::e1::B) us:=by
 have hAB:(A++B).Sublist (A++x::y::B):=(List.Sublist.refl A).append ((List.sublist_cons_self _ _).trans (List.sublist_cons_self _ _))
 have hn:=nm_sub h hAB (List.Sublist.refl us)
 have hs:∀k∈namesT (A++B) us,k∈namesT (A++x::y::B) us:=fun k hk=>by
  rcases List.mem_append.1 hk with hk | hk
  ·exact List.mem_append_left _ ((hAB.map LE.k).subset hk)
  ·exact List.mem_append_right _ hk
 have hp:(namesT (A++e0::e1::B) us).Perm (5000::5001::namesT (A++B) us):=List.perm_iff_count.2 fun z=>by
  simp only[namesT,List.count_append,List.map_append,List.map_cons,List.count_cons,q0,q1]
  omega
 refine⟨hp.nodup_iff.2 (List.nodup_cons.2 ⟨fun hm=>?_,List.nodup_cons.2 ⟨fun hm=>h5.2 (hs _ hm),hn.nd⟩⟩),fun k hk=>?_⟩
 ·rcases List.mem_cons.1 hm with e | hm
  ·cases e
  ·exact h5.1 (hs _ hm)
 ·rcases List.mem_cons.1 (hp.subset hk) with rfl | hk
  ·decide
  ·rcases List.mem_cons.1 hk with rfl | hk
   ·decide
   ·exact hn.inn k hk
theorem nm_one {A B:List LE} {us:List UE} {x y:LE} {e0:LE} (h:NmT (A++x::y::B) us) (q0:e0.k=5000) (h5:5000∉namesT (A++x::y::B) us):NmT (A++e0::B) us:=by
 have hAB:(A++B).Sublist (A++x::y::B):=(List.Sublist.refl A).append ((List.sublist_cons_self _ _).trans (List.sublist_cons_self _ _))
 have hn:=nm_sub h hAB (List.Sublist.refl us)
 have hs:∀k∈namesT (A++B) us,k∈namesT (A++x::y::B) us:=fun k hk=>by
  rcases List.mem_append.1 hk with hk | hk
  ·exact List.mem_append_left _ ((hAB.map LE.k).subset hk)
  ·exact List.mem_append_right _ hk
 have hp:(namesT (A++e0::B) us).Perm (5000::namesT (A++B) us):=List.perm_iff_count.2 fun z=>by
  simp only[namesT,List.count_append,List.map_append,List.map_cons,List.count_cons,q0]
  omega
 refine⟨hp.nodup_iff.2 (List.nodup_cons.2 ⟨fun hm=>h5 (hs _ hm),hn.nd⟩),fun k hk=>?_⟩
 rcases List.mem_cons.1 (hp.subset hk) with rfl | hk
 ·decide
 ·exact hn.inn k hk
theorem out_two {A B:List LE} {us:List UE} {x y e0 e1:LE} {k:Nat} (hk:k∉namesT (A++x::y::B) us) (q0:e0.k≠k) (q1:e1.k≠k):k∉namesT (A++e0::e1::B) us:=fun hm=>hk (by
 simp only[namesT,List.mem_append,List.map_append,List.map_cons,List.mem_cons] at hm ⊢
 rcases hm with (h | h | h | h) | h
 ·exact .inl (.inl h)
 ·exact absurd h.symm q0
 ·exact absurd h.symm q1
 ·exact .inl (.inr (.inr (.inr h)))
 ·exact .inr h)
theorem out_one {A B:List LE} {us us':List UE} {x y e0:LE} {k:Nat} (hk:k∉namesT (A++x::y::B) us) (q0:e0.k≠k) (hu:k∉us'.map Prod.fst):k∉namesT (A++e0::B) us':=fun hm=>hk (by
 simp only[namesT,List.mem_append,List.map_append,List.map_cons,List.mem_cons] at hm ⊢
 rcases hm with (h | h | h) | h
 ·exact .inl (.inl h)
 ·exact absurd h.symm q0
 ·exact .inl (.inr (.inr (.inr h)))
 ·exact absurd h hu)
end Tr
theorem s_mend0 (at_:Nat) (es:List LE) (us:List UE) (hn:NmT es us) (hmk:∀e∈es,e=mkL e.k e.a) (hfr:∀i,i≤11→i+3000∉namesT es us) (h5:5000∉namesT es us∧5001∉namesT es us)
  (hul:us.length≤6) (hel:es.length≤64) (hat:at_<es.length) (hL:∀e∈es,1≤e.a.length∧e.a.length≤4) (hc:chainQ es.length us) :
  ∃esR usR,mendL (es.map LE.val) (us.map Prod.snd) at_=(esR.map LE.val,usR.map Prod.snd)∧NmT esR usR∧(∀e∈esR,e.ok)∧(∀k∈namesT esR usR,k∈namesT es us∨k=5000∨k=5001∨∃j,j≤11∧k=j+3000)∧
   CallS Try.prog 44 [.d (.ptr FK 0),pInt .i64 0,pInt .i64 at_] [] (tIn es us) (.tup []) (tOut esR usR):=by
 have hok:∀e∈es,e.ok:=fun e he=>by rw[hmk e he];exact (show 0+e.a.length≤e.a.length by omega)
 have hval:∀i (h:i<es.length),es[i].val=es[i].a:=fun i h=>by
  have:=hmk es[i] (List.getElem_mem h)
  rw[this];exact mkL_val _ _
 have hgd:∀i (h:i<es.length),(es.map LE.val).getD i []=es[i].a:=fun i h=>by
  rw[List.getD_eq_getElem?_getD,List.getElem?_map,List.getElem?_eq_getElem h,← hval i h];rfl
 cases us with
 | nil=>
  have:=s_mendT0 at_ es (List.getElem?_eq_getElem hat) (by rw[hval _ hat];have:=hL _ (List.getElem_mem hat);omega) hn hok (by omega)
  exact⟨es,[],rfl,hn,hok,fun k hk=>.inl hk,this⟩
 | cons q Q=>
  obtain⟨k1,u⟩:=q
  obtain⟨hu,hus,h64,hcQ⟩:=hc
  have hat':at_<u.sum:=by omega
  have hu2:∀n∈u,2≤n:=fun n hn=>(hu n hn).1
  obtain⟨s1,s2,s3⟩:=side_lt hu2 hat'
  have hu4:u.length≤64:=by have:=two_sum hu;omega
  have hx:3001∈nT:=in_new (k:=1) (by omega)
  have hxn:3001∉namesT es ((k1,u)::Q):=hfr 1 (by omega)
  have hQ:Q.length+1≤6:=hul
  have gz:∀i,i<es.length→CallS Try.prog 63 [.d (.ptr FK 0),pInt .i64 (([]:List UE).length:Nat),pInt .i64 i] (tIn es ([]++(k1,u)::Q)) [] (pInt .i64 (((es.map LE.val).getD i []).length:Nat)) []:=fun i hi=>by
   have:=s_size0 hn hok i (List.getElem?_eq_getElem hi) (by rw[hval _ hi];have:=hL _ (List.getElem_mem hi);omega)
   rw[hval _ hi] at this
   rw[hgd i hi]
   exact this
  by_cases c1:2≤((es.map LE.val).getD at_ []).length
  ·refine⟨es,(3001,u)::Q,?_,nm_ren (A:=[]) u hn hx hxn,hok,fun k hk=>?_,s_mendA es [] Q k1 u at_ 3001 (fun i=>((es.map LE.val).getD i []).length) hn hok hx hxn (by show 0+1+Q.length≤20;omega) (by omega) (gz at_ hat) c1⟩
   ·show mendL _ (u::Q.map Prod.snd) at_=_
    rw[mendL,if_pos c1];rfl
   ·simp only[namesT,List.mem_append,List.map_cons,List.mem_cons] at hk ⊢
    rcases hk with h | h | h
    ·exact .inl (.inl h)
    ·exact .inr (.inr (.inr ⟨1,by omega,h⟩))
    ·exact .inl (.inr (.inr h))
  ·have hsd:sideF u at_<es.length:=by omega
   have hsz:=gz at_ hat
   have hsz2:=gz (sideF u at_) hsd
   have hse:sideF u at_=at_+1∨(sideF u at_+1=at_):=by
    unfold sideF at s2 ⊢
    by_cases e:at_+1=(u.take (nodeF u at_+1)).sum
    ·rw[if_pos e] at s2 ⊢;exact .inr (by omega)
    ·rw[if_neg e];exact .inl rfl
   obtain⟨m,hm⟩:∃m,m=min at_ (sideF u at_):=⟨_,rfl⟩
   have hml:m+1<es.length:=by omega
   obtain⟨A,B,x,y,hes,hA⟩:=two_of es m hml
   obtain⟨k0,a,rfl⟩:∃k0 a,x=mkL k0 a:=⟨_,_,hmk x (by rw[hes];simp)⟩
   obtain⟨k2,b,rfl⟩:∃k2 b,y=mkL k2 b:=⟨_,_,hmk y (by rw[hes];simp)⟩
   have ha:1≤a.length∧a.length≤4:=hL (mkL k0 a) (by rw[hes];simp)
   have hb:1≤b.length∧b.length≤4:=hL (mkL k2 b) (by rw[hes];simp)
   have hAm:(A.map LE.val).length=m:=by rw[List.length_map];exact hA
   have hlen:es.length=A.length+2+B.length:=by rw[hes,List.length_append,List.length_cons,List.length_cons];omega
   have hvals:es.map LE.val=A.map LE.val++[a,b]++B.map LE.val:=by rw[hes];exact val_two
   have hokAB:∀e∈A++B,e.ok:=fun e he=>hok e (by
    rw[hes]
    simp only[List.mem_append,List.mem_cons] at he ⊢
    rcases he with h | h
    ·exact .inl h
    ·exact .inr (.inr (.inr h)))
   obtain⟨g1,g2⟩:=two_at (P:=A.map LE.val) (Q:=B.map LE.val) (x:=a) (s:=b) ([]:List PairD)
   rw[hAm] at g1 g2
   rw[← hvals] at g1 g2
   have hsz':=hsz
   have hn':=hn
   have hxn':=hxn
   have h5':=h5
   rw[hes] at hn' hxn' h5'
   by_cases c2:2<((es.map LE.val).getD (sideF u at_) []).length
   ·rcases hse with hse | hse
    ·have hmat:m=at_:=by omega
     have hh:=s_hand0R A B ((k1,u)::Q) k0 k2 a b hn' h5' (by omega) (by show Q.length+1≤20;omega) (by omega) (by omega)
     rw[← hes,show A.length+1=sideF u at_ by omega,show A.length=at_ by omega] at hh
     have hnH:=nm_two (e0:=mkL 5000 (a++b.take 1)) (e1:=⟨5001,1,b.length - 1,b⟩) hn' rfl rfl h5'
     refine⟨A++mkL 5000 (a++b.take 1)::(⟨5001,1,b.length - 1,b⟩:LE)::B,(3001,u)::Q,?_,nm_ren (A:=[]) u hnH hx (out_two hxn' (show 5000≠3001 by decide) (show 5001≠3001 by decide)),fun e he=>?_,fun k hk=>?_,
      s_mendB es _ [] [] Q k1 u at_ 3001 (fun i=>((es.map LE.val).getD i []).length) hn hok hx hxn (by show 0+1+Q.length≤20;omega) (by omega) hu hu4 hat' (by omega) hsz c1 hsz2 c2 hnH (out_two hxn' (show 5000≠3001 by decide) (show 5001≠3001 by decide)) hh⟩
     ·show mendL _ (u::Q.map Prod.snd) at_=_
      rw[mendL,if_neg c1,if_pos c2]
      unfold handL
      rw[if_pos (by omega),hse,← hmat,g1,g2,hvals,← hAm,two_set1,two_set2]
      refine congrArg (fun z=>(z,u::Q.map Prod.snd)) ?_
      rw[List.map_append,List.map_cons,List.map_cons,mkL_val,show LE.val ⟨5001,1,b.length - 1,b⟩=b.drop 1 from List.take_of_length_le (by rw[List.length_drop];exact Nat.le_refl _)]
      simp
     ·simp only[List.mem_append,List.mem_cons] at he
      rcases he with h | rfl | rfl | h
      ·exact hokAB e (List.mem_append_left _ h)
      ·show 0+(a++b.take 1).length≤(a++b.take 1).length;omega
      ·show 1+(b.length - 1)≤b.length;omega
      ·exact hokAB e (List.mem_append_right _ h)
     ·rw[hes]
      simp only[namesT,List.mem_append,List.map_append,List.map_cons,List.mem_cons] at hk ⊢
      rcases hk with (h | h | h | h) | h | h
      ·exact .inl (.inl (.inl h))
      ·exact .inr (.inl h)
      ·exact .inr (.inr (.inl h))
      ·exact .inl (.inl (.inr (.inr (.inr h))))
      ·exact .inr (.inr (.inr ⟨1,by omega,h⟩))
      ·exact .inl (.inr (.inr h))
    ·have hmat:m=sideF u at_:=by omega
     have hl2:2<a.length:=by rw[← hmat,g1] at c2;exact c2
     obtain⟨a',z,rfl⟩:∃a' z,a=a'++[z]:=by
      refine⟨a.dropLast,a.getLast (List.length_pos_iff.1 (by omega)),(List.dropLast_concat_getLast _).symm⟩
     have hal:(a'++[z]).length=a'.length+1:=by rw[List.length_append];rfl
     have hh:=s_hand0L A B ((k1,u)::Q) k0 k2 a' b z hn' h5' (by omega) (by show Q.length+1≤20;omega) (by omega) (by omega)
     rw[← hes,show A.length+1=at_ by omega,show A.length=sideF u at_ by omega] at hh
     have hnH:=nm_two (e0:=⟨5000,0,a'.length,a'++[z]⟩) (e1:=mkL 5001 (z::b)) hn' rfl rfl h5'
     refine⟨A++(⟨5000,0,a'.length,a'++[z]⟩:LE)::mkL 5001 (z::b)::B,(3001,u)::Q,?_,nm_ren (A:=[]) u hnH hx (out_two hxn' (show 5000≠3001 by decide) (show 5001≠3001 by decide)),fun e he=>?_,fun k hk=>?_,
      s_mendB es _ [] [] Q k1 u at_ 3001 (fun i=>((es.map LE.val).getD i []).length) hn hok hx hxn (by show 0+1+Q.length≤20;omega) (by omega) hu hu4 hat' (by omega) hsz c1 hsz2 c2 hnH (out_two hxn' (show 5000≠3001 by decide) (show 5001≠3001 by decide)) hh⟩
     ·show mendL _ (u::Q.map Prod.snd) at_=_
      rw[mendL,if_neg c1,if_pos c2]
      unfold handL
      rw[if_neg (by omega),← hmat,show at_=m+1 by omega,g1,g2,hvals,← hAm,two_set2,two_set1]
      refine congrArg (fun z=>(z,u::Q.map Prod.snd)) ?_
      rw[hal,Nat.add_sub_cancel,List.map_append,List.map_cons,List.map_cons,mkL_val,show LE.val ⟨5000,0,a'.length,a'++[z]⟩=a' from List.take_left' rfl,List.take_left' rfl,List.drop_left' rfl]
      simp
     ·simp only[List.mem_append,List.mem_cons] at he
      rcases he with h | rfl | rfl | h
      ·exact hokAB e (List.mem_append_left _ h)
      ·show 0+a'.length≤(a'++[z]).length;omega
      ·show 0+(z::b).length≤(z::b).length;omega
      ·exact hokAB e (List.mem_append_right _ h)
     ·rw[hes]
      simp only[namesT,List.mem_append,List.map_append,List.map_cons,List.mem_cons] at hk ⊢
      rcases hk with (h | h | h | h) | h | h
      ·exact .inl (.inl (.inl h))
      ·exact .inr (.inl h)
      ·exact .inr (.inr (.inl h))
      ·exact .inl (.inl (.inr (.inr (.inr h))))
      ·exact .inr (.inr (.inr ⟨1,by omega,h⟩))
      ·exact .inl (.inr (.inr h))
   ·have hj:=s_join0 A B ((k1,u)::Q) k0 k2 a b hn' h5'.1 (by omega) (by show Q.length+1≤20;omega) (by omega) (by omega)
    rw[← hes,show A.length=min at_ (sideF u at_) by omega] at hj
    have hnJ:=nm_one (e0:=mkL 5000 (a++b)) hn' rfl h5'.1
    have hokJ:∀e∈A++mkL 5000 (a++b)::B,e.ok:=fun e he=>by
     simp only[List.mem_append,List.mem_cons] at he
     rcases he with h | rfl | h
     ·exact hokAB e (List.mem_append_left _ h)
     ·show 0+(a++b).length≤(a++b).length;omega
     ·exact hokAB e (List.mem_append_right _ h)
    obtain⟨esJ,hesJ⟩:∃esJ,esJ=A++mkL 5000 (a++b)::B:=⟨_,rfl⟩
    have hJval:esJ.map LE.val=joinL (es.map LE.val) m:=by
     unfold joinL
     rw[g1,g2,hvals,← hAm,two_set1,two_del,hesJ,List.map_append,List.map_cons,mkL_val];simp
    have hxJ:3001∉namesT esJ ((k1,u)::Q):=by
     rw[hesJ]
     refine out_one hxn' (show 5000≠3001 by decide) fun h=>hxn (List.mem_append_right _ h)
    rw[← hesJ] at hj hnJ hokJ
    obtain⟨n1,n2,n3⟩:=nodeF_spec u at_ hat'
    obtain⟨u',hu'⟩:∃u',u'=u.set (nodeF u at_) (u.getD (nodeF u at_) 0 - 1):=⟨_,rfl⟩
    have hu'l:u'.length=u.length:=by rw[hu',List.length_set]
    have hn5:NmT esJ ([]++(3001,u')::Q):=nm_ren (A:=[]) u' hnJ hx hxJ
    have hJn:∀k∈esJ.map LE.k,k=5000∨k∈es.map LE.k:=fun k hk=>by
     rw[hesJ] at hk
     rw[hes]
     simp only[List.mem_append,List.map_append,List.map_cons,List.mem_cons] at hk ⊢
     rcases hk with h | h | h
     ·exact .inr (.inl h)
     ·exact .inl h
     ·exact .inr (.inr (.inr (.inr h)))
    have hfr5:∀j,(j=2*([]:List UE).length∨2*([]:List UE).length+2≤j)→j≤11→j+3000∉namesT esJ ([]++(3001,u')::Q):=fun j h1 h2 hm=>by
     have h1:j=0∨2≤j:=h1
     have h0:=hfr j (by omega)
     simp only[namesT,List.mem_append,List.map_append,List.map_cons,List.mem_cons,List.map_nil,List.not_mem_nil,or_false,List.nil_append] at hm h0
     rcases hm with h | h | h
     ·rcases hJn _ h with e | e
      ·omega
      ·exact h0 (.inl e)
     ·omega
     ·exact h0 (.inr (.inr h))
    have hm5:∀n∈u',1≤n∧n≤64:=fun n hn=>by
     rw[hu'] at hn
     rcases List.mem_or_eq_of_mem_set hn with h | h
     ·have:=hu n h;omega
     ·have hq:=hu _ (List.getElem_mem n1)
      rw[h,List.getD_eq_getElem?_getD,List.getElem?_eq_getElem n1]
      show 1≤u[nodeF u at_] - 1∧u[nodeF u at_] - 1≤64
      omega
    obtain⟨r1,r2⟩:=s_mendU Q [] 3001 u' (nodeF u at_) esJ hn5 hokJ hfr5 (by show 0+Q.length≤5;omega) (by rw[hesJ,List.length_append,List.length_cons];omega) (by rw[hu'l];exact n1) (by rw[hu'l];exact hu4) hm5 (by rw[hu'l];exact hcQ)
    obtain⟨g1',g2'⟩:=mendN_nd Q 0 3001 u' (nodeF u at_) (List.nodup_append.1 hn5.nd).2.1 (fun j h1 h2 hm=>hfr5 j h1 (by omega) (List.mem_append_right _ hm))
    refine⟨esJ,[]++mendN 0 3001 u' Q (nodeF u at_),?_,r1,hokJ,fun k hk=>?_,s_mendC es esJ esJ [] [] Q _ k1 u at_ 3001 (fun i=>((es.map LE.val).getD i []).length) hn hok hx hxn (by show 0+1+Q.length≤20;omega) (by omega) hu hu4 hat' (by omega) hsz c1 hsz2 c2 hnJ hxJ rfl hj (by rw[← hu'];exact r2) r1 (fun k hk hk2=>?_)⟩
    ·show mendL _ (u::Q.map Prod.snd) at_=_
     rw[mendL,if_neg c1,if_neg c2,hJval,← hm,← hu',List.nil_append,mendN_snd]
    ·rcases List.mem_append.1 hk with hk | hk
     ·rcases hJn k hk with h | h
      ·exact .inr (.inl h)
      ·exact .inl (List.mem_append_left _ h)
     ·rw[List.nil_append] at hk
      rcases g2' k hk with h | ⟨j,j1,j2,h⟩
      ·rcases List.mem_cons.1 h with h | h
       ·exact .inr (.inr (.inr ⟨1,by omega,h⟩))
       ·exact .inl (List.mem_append_right _ (List.mem_cons_of_mem _ h))
      ·exact .inr (.inr (.inr ⟨j,by omega,h⟩))
    ·simp only[namesT,List.mem_append,List.nil_append] at hk ⊢
     rcases hk with h | h
     ·exact .inl h
     ·rcases g2' k h with h | ⟨j,j1,j2,h⟩
      ·rcases List.mem_cons.1 h with h | h
       ·rw[h] at hk2;exact absurd hk2 hxn
       ·exact .inr h
      ·rw[h] at hk2
       exact absurd hk2 (hfr j (by omega))
end Go.Proofs.Ythejollbijglcaa.Pm
end
