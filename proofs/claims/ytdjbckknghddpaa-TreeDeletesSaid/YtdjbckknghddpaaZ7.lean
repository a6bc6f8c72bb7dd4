/- Parts of the proof, one behind the other: PtSplit0 PtIns PtSize PtHandU PtJoinU PtTrim PtMend0 PtMend1 PtMend2 PtMend3. Conditions: none beyond what each theorem says. -/
import Derived.Test.YtdjbckknghddpaaZ6
open List (all_cons append_assoc cons_append count_append count_cons count_nil drop_left' drop_zero length_append length_cons length_drop length_filter_le length_map length_pos_iff length_set length_take map_append map_congr_left map_cons map_drop map_id map_map map_nil map_take mem_append mem_append_left mem_append_right mem_cons mem_cons_of_mem mem_cons_self mem_map mem_of_mem_drop mem_of_mem_take mem_range mem_singleton nil_append nil_sublist nodup_append nodup_cons not_mem_nil pairwise_flatten perm_iff_count set_eq_take_append_cons_drop sublist_append_left sublist_append_right sublist_cons_self sum_append sum_cons sum_singleton take_append_drop take_left' take_length take_nil take_of_length_le take_set_of_le take_succ_cons take_take)
open Nat (le_of_ble_eq_true min_eq_left mul_le_mul_right not_lt_zero sub_self zero_le)
open Int (toNat_natCast)
open Option (getD_some)
set_option linter.unusedVariables false
set_option linter.unusedSimpArgs false
set_option maxRecDepth 100000
namespace Go.Proofs.Ytdjbckknghddpaa.Pm
section
open Go.RowKit K
open Tr
namespace Tr
def newF0 (k:Nat):Nat:=if k=NK1 then 93 else if k=NK2 then 94 else if 3000<=k/\k<4000 then k+10000 else k
theorem newF0_inj {a b:Nat} (ha:okK a) (hb:okK b) (e:newF0 a=newF0 b):a=b:=by
 unfold newF0 at e;have h1:NK1=2000001:=rfl;have h2:NK2=2000002:=rfl;rw[h1,h2] at e;repeat' (split at e)
 all_goals omega
end Tr
theorem mkL_k (k:Nat) (l:List PairD):(mkL k l).k=k:=rfl
set_option maxHeartbeats 4000000 in
theorem s_split0 (A B:List LE) (k0:Nat) (l:List PairD) (us:List UE) (hn:NmT (A++mkL k0 l::B) us) (hok:∀e∈A++B,e.ok) (hfr:∀i,i<=11->i+3000∉namesT (A++mkL k0 l::B) us) (h5:5000∉namesT (A++mkL k0 l::B) us/\5001∉namesT (A++mkL k0 l::B) us)
  (hl:4<l.length/\l.length<=100) (hul:us.length<=9) (hel:A.length+1+B.length<=64) (hc:chainQ (A.length+1+B.length) us) :
  CallS Try.prog 17 [.d (.ptr FK 0),pInt .i64 0,pInt .i64 A.length] [] (tIn (A++mkL k0 l::B) us) (.tup [])
   (tOut (A++mkL 5000 (l.take 2)::mkL 5001 (l.drop 2)::B) (riseQ us A.length 0)):=by
 obtain⟨es,hes⟩:∃es,es=A++mkL k0 l::B:=⟨_,rfl⟩;rw[<- hes] at hn hfr h5 ⊢;have hesl:es.length=A.length+1+B.length:=by rw[hes,length_append,length_cons];omega
 have hAB:(A++B).Sublist es:=by rw[hes];exact (List.Sublist.refl A).append (sublist_cons_self _ _)
 have hnAB:NmT (A++B) us:=nm_sub hn hAB (List.Sublist.refl _);refine callS_sem Try.func17 (by rfl) rfl (by kernel_rfl) (by rfl) ([FK,FK1,FK2]++namesT es us) (fun k hk=>by rw[nil_append,tIn_keys] at hk;exact hk) ?_;refine Smc.cut (le:=[(0,.d (.ptr FK 0)),(1,pInt .i64 0),(2,pInt .i64 A.length)])
  (lh:=[(FK,.box 43 [.arr FK1 44 1 0 (A.length+1+B.length),.arr FK2 61 1 0 us.length]),(FK1,.darr 44 1 ((A++mkL 800 l::B).map LE.row)),(FK2,.darr 61 1 (us.map urow)),(800,leafH l)]++famT (A++B) us)
  (m:=ksF [(800,k0)]) ?wk ?_
 case' wk=>refine wk_in [(800,k0)] rfl rfl rfl rfl hn (es2:=A++mkL 800 l::B) ?e2 (ump_fix rfl (us_in hn)) ?nm _ ?lh ?he rfl
 case he=>exact⟨⟨rfl,rfl,rfl⟩,.inl rfl,.inl rfl,trivial⟩
 case e2=>
  rw[map_append,map_cons,mp_fix rfl fun e he=>es_in hn e (by rw[hes];exact mem_append_left _ he),mp_fix rfl fun e he=>es_in hn e (by rw[hes];exact mem_append_right _ (mem_cons_of_mem _ he)),hes];rfl
 case nm=>
  intro k hk;have:k=800\/k∈namesT (A++B) us:=by
   simp only[namesT,mem_append,map_append,map_cons,mem_cons] at hk ⊢;rcases hk with (h | h | h) | h
   ·exact .inr (.inl (.inl h))
   ·exact .inl h
   ·exact .inr (.inl (.inr h))
   ·exact .inr (.inr h)
  rcases this with rfl | h
  ·exact mem_append_left _ (show 800∈[800] by decide)
  ·exact mem_append_right _ (hnAB.inn k h)
 case lh=>
  intro q hq;rcases mem_append.1 hq with hq | hq
  ·simp only[mem_cons,not_mem_nil,or_false] at hq;rcases hq with h | h | h | h
   ·exact mem_append_left _ (by rw[h,show A.length+1+B.length=(A++mkL 800 l::B).length by simp;omega];exact mem_cons_self)
   ·exact mem_append_left _ (by rw[h];simp)
   ·exact mem_append_left _ (by rw[h];simp)
   ·refine mem_append_right _ (mem_append_left _ ?_);rw[h,map_append];exact mem_append_right _ mem_cons_self
  ·rcases mem_append.1 hq with hq | hq
   ·refine mem_append_right _ (mem_append_left _ ?_);rw[map_append] at hq ⊢;rcases mem_append.1 hq with hq | hq
    ·exact mem_append_left _ hq
    ·exact mem_append_right _ (mem_cons_of_mem _ hq)
   ·exact mem_append_right _ (mem_append_right _ hq)
 refine Smc.seq rfl ?_;have r1:((A++mkL 800 l::B).map LE.row)[0+((A.length:Nat):Int).toNat]? = some [.arr 800 41 2 0 l.length]:=by
  rw[show 0+((A.length:Nat):Int).toNat=A.length by omega,map_append,map_cons];exact get_mid2 (by rw[length_map])
 have hlm:(l.map PairD.c).length=l.length:=length_map _;have sc0:=s_clone_own (l.map PairD.c) 0 2 (by decide) (by rw[hlm];omega) (by rw[hlm];omega);have sc1:=s_clone_own (l.map PairD.c) 2 (l.length - 2) (by omega) (by rw[hlm];omega) (by rw[hlm];omega);((conv=>whnf);repeat' ((first|(with_reducible first|apply a_|apply b_|apply c_)|((with_reducible first|apply d_|apply e_|apply f_|apply g_|apply h_);first|omega|simp only[q_]<;>omega)|((with_reducible apply i_);first|omega|simp only[q_]<;>omega)|((with_reducible apply h_);first|decide|kernel_rfl)|refine s_ (by decide) ?_|refine t_ (by decide) ?_|(refine Row.mk _ r1 ?_)|with_reducible first|apply l_|apply m_|apply n_|apply o_|refine p_ (fun _=>?_) (fun _=>?_))<;>conv=>whnf));refine call_csr [(FK,800),(NK,30)] sc0 rfl rfl rfl rfl rfl (fun q hq=>?_) (fun x hx=>?_) (show NK∈[FK,NK] by decide) rfl (fun q hq=>?_) ?_
 ·simp only[cons_append,nil_append,mem_cons,not_mem_nil,or_false] at hq;rcases hq with rfl | rfl
  ·exact hon_cs _ _ _ _
  ·exact hon_cs _ _ _ _
 ·rw[mem_singleton] at hx;subst hx;show FK∈_;decide
 ·rw[List.append_nil,mem_singleton] at hq;subst hq;rfl
 ((conv=>whnf);repeat' ((first|(with_reducible first|apply a_|apply b_|apply c_)|((with_reducible first|apply d_|apply e_|apply f_|apply g_|apply h_);first|omega|simp only[q_]<;>omega)|((with_reducible apply i_);first|omega|simp only[q_]<;>omega)|((with_reducible apply h_);first|decide|kernel_rfl)|refine s_ (by decide) ?_|refine t_ (by decide) ?_|with_reducible first|apply l_|apply m_|apply n_|apply o_|refine p_ (fun _=>?_) (fun _=>?_))<;>conv=>whnf));refine call_csr [(FK,800),(NK,33)] sc1 rfl rfl rfl rfl rfl (fun q hq=>?_) (fun x hx=>?_) (show NK∈[FK,NK] by decide) rfl (fun q hq=>?_) ?_
 ·simp only[cons_append,nil_append,mem_cons,not_mem_nil,or_false] at hq;rcases hq with rfl | rfl
  ·exact hon_cs _ _ _ _
  ·exact hon_cs _ _ _ _
 ·rw[mem_singleton] at hx;subst hx;show FK∈_;decide
 ·rw[List.append_nil,mem_singleton] at hq;subst hq;rfl
 ((conv=>whnf);repeat' ((first|(with_reducible first|apply a_|apply b_|apply c_)|((with_reducible first|apply d_|apply e_|apply f_|apply g_|apply h_);first|omega|simp only[q_]<;>omega)|((with_reducible apply i_);first|omega|simp only[q_]<;>omega)|((with_reducible apply h_);first|decide|kernel_rfl)|refine s_ (by decide) ?_|refine t_ (by decide) ?_|(refine EmpOr.emp ?_)|with_reducible first|apply l_|apply m_|apply n_|apply o_|refine p_ (fun _=>?_) (fun _=>?_))<;>conv=>whnf));obtain⟨esR,hesR⟩:∃esR,esR=es++[mkL 5000 (l.take 2),mkL 5001 (l.drop 2)]:=⟨_,rfl⟩;have hk0:k0∈namesT es us:=mem_append_left _ (by rw[hes,map_append];exact mem_append_right _ mem_cons_self);have hk0n:k0∉namesT (A++B) us:=by
  have hp:(namesT es us).Perm (k0::namesT (A++B) us):=perm_iff_count.2 fun a=>by
   rw[hes];simp only[namesT,count_append,map_append,map_cons,count_cons,mkL_k];omega
  exact (nodup_cons.1 (hp.nodup_iff.1 hn.nd)).1
 have nAB:∀k∈namesT (A++B) us,k∈namesT es us:=fun k hk=>by
  rcases mem_append.1 hk with hk | hk
  ·exact mem_append_left _ (List.Sublist.subset (hAB.map LE.k) hk)
  ·exact mem_append_right _ hk
 have hnR:NmT esR []:=by
  refine⟨?_,fun k hk=>?_⟩
  ·rw[hesR,map_append];show (es.map LE.k++[5000,5001]++[]).Nodup;rw[List.append_nil];refine nodup_append.2 ⟨(nodup_append.1 hn.nd).1,by decide,fun x hx y hy e=>?_⟩;subst e;simp only[mem_cons,not_mem_nil,or_false] at hy;rcases hy with rfl | rfl
   ·exact h5.1 (mem_append_left _ hx)
   ·exact h5.2 (mem_append_left _ hx)
  ·rw[hesR,map_append] at hk;rcases mem_append.1 hk with hk | hk
   ·rcases mem_append.1 hk with hk | hk
    ·exact hn.inn k (mem_append_left _ hk)
    ·have hk:k∈[5000,5001]:=hk;simp only[mem_cons,not_mem_nil,or_false] at hk;rcases hk with rfl | rfl
     ·exact (by decide:5000∈nT)
     ·exact (by decide:5001∈nT)
   ·cases hk
 have hrowsl:(es.map LE.row).length=A.length+1+B.length:=by rw[length_map,hesl]
 have sr:=s_rep_leaf (es.map LE.row) A.length (by rw[hrowsl];omega) (by rw[hrowsl];omega) (fun r hr x hx=>on_imp (fun k hk=>hn.inn k hk) (row_on es us r hr x hx)) [D.arr 5000 41 2 0 2] [D.arr 5001 41 2 0 (l.length - 2)] (fun r hr x hx=>?hv) (famT esR []) (nm_fam hnR)
 case hv=>
  simp only[mem_cons,not_mem_nil,or_false] at hr;rcases hr with rfl | rfl
  ·rw[mem_singleton] at hx;subst hx;show 5000∈nT;decide
  ·rw[mem_singleton] at hx;subst hx;show 5001∈nT;decide
 obtain⟨F,hF⟩:∃F,F=Fl [(FK,FK1),(FK1,34),(NK,35),(k0,800),(5000,30),(5001,33)]:=⟨_,rfl⟩;have hk0T:=hn.inn k0 hk0;have hk0b:=nT_big k0 hk0T;have k05:k0≠5000/\k0≠5001:=⟨fun e=>h5.1 (by rw[<- e];exact hk0),fun e=>h5.2 (by rw[<- e];exact hk0)⟩;have FK_:F FK=FK1:=by rw[hF];rfl
 have FK1_:F FK1=34:=by rw[hF];rfl
 have NK_:F NK=35:=by rw[hF];rfl
 have F0:F k0=800:=by rw[hF,Fl_skip (by show k0≠1000000;omega),Fl_skip (by show k0≠1000001;omega),Fl_skip (by show k0≠2000000;omega)];exact Fl_hit
 have F5:F 5000=30:=by rw[hF,Fl_skip (by decide),Fl_skip (by decide),Fl_skip (by decide),Fl_skip (fun e=>k05.1 e.symm)];rfl
 have F51:F 5001=33:=by rw[hF,Fl_skip (by decide),Fl_skip (by decide),Fl_skip (by decide),Fl_skip (fun e=>k05.2 e.symm)];rfl
 have FN:∀k∈namesT (A++B) us,F k=k:=fun k hk=>by
  have hb:=nT_big k (hnAB.inn k hk);rw[hF];refine Fl_no fun p hp=>?_;simp only[mem_cons,not_mem_nil,or_false] at hp;rcases hp with rfl | rfl | rfl | rfl | rfl | rfl
  ·show 1000000≠k;omega
  ·show 1000001≠k;omega
  ·show 2000000≠k;omega
  ·exact fun e=>hk0n (by rw[show k0=k from e];exact hk)
  ·exact fun e=>h5.1 (by rw[show 5000=k from e];exact nAB k hk)
  ·exact fun e=>h5.2 (by rw[show 5001=k from e];exact nAB k hk)
 have eA:A.map (LE.mv F)=A:=mv_same fun e he=>FN _ (mem_append_left _ (mem_map.2 ⟨e,mem_append_left _ he,rfl⟩));have eB:B.map (LE.mv F)=B:=mv_same fun e he=>FN _ (mem_append_left _ (mem_map.2 ⟨e,mem_append_right _ he,rfl⟩));have ees:es.map (LE.mv F)=A++mkL 800 l::B:=by
  rw[hes,map_append,map_cons,eA,eB];show A++(⟨F k0,0,l.length,l⟩:LE)::B=_;rw[F0];rfl
 have hR:=nm_fam hnAB;have look:∀q∈famT (A++B) us,hpL ([(FK,.box 43 [.arr FK1 44 1 0 (A.length+1+B.length),.arr FK2 61 1 0 us.length]),(FK1,.darr 44 1 ((A++mkL 800 l::B).map LE.row)),(FK2,.darr 61 1 (us.map urow)),(800,leafH l)]++famT (A++B) us) q.1=some q.2:=fun q hq=>hR.past rfl hq;have hRk:(famT esR []).map Prod.fst=es.map LE.k++[5000,5001]:=by
  rw[famT_keys,hesR,map_append];show es.map LE.k++[5000,5001]++[]=_;rw[List.append_nil]
 have hRin:∀k∈(famT esR []).map Prod.fst,k∈nT:=(nm_fam hnR).key;have hRnd:((famT esR []).map Prod.fst).Nodup:=by rw[famT_keys];exact hnR.nd
 have farn:∀k∈(famT esR []).map Prod.fst,∀x∈[FK,FK1,NK],k≠x:=fun k hk x hx e=>by
  subst e;exact farK_out (apart_far (l:=[FK,FK1,NK]) rfl k hx) (hRin k hk)
 refine call_mp F sr ?d1 ?d2 ([FK,FK1,NK]++(famT esR []).map Prod.fst) (fun k=>?kk) (map_nd_inj ?inj) (fun q hq=>?hon) (fun x hx=>?hao) (show NK∈_ by simp) ?ha (fun q hq=>?hh) ?_
 case d1=>
  rw[map_append];exact nodup_append.2 ⟨hRnd,(show [FK,FK1].Nodup by decide),fun x hx y hy e=>farn x hx y (by
   have hy:y∈[FK,FK1]:=hy;simp only[mem_cons,not_mem_nil,or_false] at hy ⊢;rcases hy with h | h
   ·exact .inl h
   ·exact .inr (.inl h)) e⟩
 case d2=>
  rw[map_append];exact nodup_append.2 ⟨hRnd,(show [NK].Nodup by decide),fun x hx y hy e=>farn x hx y (by
   have hy:y∈[NK]:=hy;simp only[mem_cons,not_mem_nil,or_false] at hy ⊢;exact .inr (.inr hy)) e⟩
 case kk=>
  rw[map_append];simp only[mem_append,map_cons,map_nil,map_append,mem_cons,not_mem_nil,or_false];constructor
  ·rintro ((h | h | h) | h)
   ·exact .inr (.inl (.inl h))
   ·exact .inr (.inl (.inr h))
   ·exact .inr (.inr h)
   ·exact .inl h
  ·rintro (h | (h | h) | h)
   ·exact .inr h
   ·exact .inl (.inl h)
   ·exact .inl (.inr (.inl h))
   ·exact .inl (.inr (.inr h))
 case inj=>
  rw[map_append,hRk];have hm:(es.map LE.k++[5000,5001]).map F=(A++mkL 800 l::B).map LE.k++[30,33]:=by
   rw[map_append]
   congr 1
   ·rw[<- ees,map_map,map_map];rfl
   ·show [F 5000,F 5001]=_;rw[F5,F51]
  rw[hm];show ([F FK,F FK1,F NK]++_).Nodup;rw[FK_,FK1_,NK_];refine nd_perm (lits:=[FK1,34,35,800,30,33]) (names:=namesT (A++B) []) (perm_iff_count.2 fun a=>?_) rfl rfl (nm_sub hnAB (List.Sublist.refl _) (nil_sublist _)).nd (nm_sub hnAB (List.Sublist.refl _) (nil_sublist _)).inn;simp only[namesT,count_append,map_append,map_cons,map_nil,count_cons,count_nil,mkL_k];omega
 case hon=>
  have A1:∀k∈namesT es ([]:List UE),k∈[FK,FK1,NK]++(famT esR []).map Prod.fst:=fun k hk=>by
   rw[hRk];refine mem_append_right _ (mem_append_left _ ?_);rcases mem_append.1 hk with hk | hk
   ·exact hk
   ·cases hk
  have A2:∀k,k=5000\/k=5001->k∈[FK,FK1,NK]++(famT esR []).map Prod.fst:=fun k hk=>by
   rw[hRk];exact mem_append_right _ (mem_append_right _ (by rcases hk with rfl | rfl<;>simp))
  have hnew:hon (·∈[FK,FK1,NK]++(famT esR []).map Prod.fst) (.darr 44 1 [[D.arr 5000 41 2 0 2],[D.arr 5001 41 2 0 (l.length - 2)]]):=fun r hr x hx=>by
   simp only[mem_cons,not_mem_nil,or_false] at hr;rcases hr with rfl | rfl
   ·rw[mem_singleton] at hx;subst hx;exact A2 5000 (.inl rfl)
   ·rw[mem_singleton] at hx;subst hx;exact A2 5001 (.inr rfl)
  have hold:hon (·∈[FK,FK1,NK]++(famT esR []).map Prod.fst) (.darr 44 1 (es.map LE.row)):=fun r hr x hx=>on_imp A1 (row_on es [] r hr x hx);rcases mem_append.1 hq with hq | hq
  ·exact hon_imp (fun k (hk:False)=>hk.elim) (famT_no esR [] q hq)
  ·simp only[cons_append,nil_append,mem_cons,not_mem_nil,or_false] at hq;rcases hq with rfl | rfl | rfl
   ·exact hold
   ·exact hnew
   ·exact hon_put hold hnew
 case hao=>
  simp only[mem_cons,not_mem_nil,or_false] at hx;rcases hx with rfl | rfl | rfl | rfl
  ·show FK∈_;simp
  ·trivial
  ·trivial
  ·show FK1∈_;simp
 case ha=>
  show [PV.d (.arr (F FK) _ 1 0 _),_,_,PV.d (.arr (F FK1) _ 1 0 2)]=_;rw[FK_,FK1_,hrowsl];rfl
 case hh=>
  rcases mem_append.1 hq with hq | hq
  ·rcases mem_append.1 hq with hq | hq
   ·obtain⟨e,he,rfl⟩:=mem_map.1 hq;show _=some (hmp F (leafH e.a));rw[hmp_leaf];show _=some (leafH e.a);rw[hesR,hes] at he;have hcase:e∈A++B\/e=mkL k0 l\/e=mkL 5000 (l.take 2)\/e=mkL 5001 (l.drop 2):=by
     simp only[mem_append,mem_cons,not_mem_nil,or_false] at he ⊢;rcases he with (h | h | h) | h | h
     ·exact .inl (.inl h)
     ·exact .inr (.inl h)
     ·exact .inl (.inr h)
     ·exact .inr (.inr (.inl h))
     ·exact .inr (.inr (.inr h))
    rcases hcase with he | rfl | rfl | rfl
    ·have hm:e.fam∈famT (A++B) us:=mem_append_left _ (mem_map.2 ⟨e,he,rfl⟩);have hb:=(hR.keys e.fam hm).1;show _=_;have hFe:F e.fam.1=e.k:=FN _ (mem_append_left _ (mem_map.2 ⟨e,he,rfl⟩));rw[hFe];repeat refine app_fam rfl hb ?_
     exact look e.fam hm
    ·rw[show (mkL k0 l).fam.1=k0 from rfl,F0];rfl
    ·rw[show (mkL 5000 (l.take 2)).fam.1=5000 from rfl,F5];refine (leaf_eq ?_:_);rw[drop_zero,<- map_take];rfl
    ·rw[show (mkL 5001 (l.drop 2)).fam.1=5001 from rfl,F51];refine (leaf_eq ?_:_);rw[take_of_length_le (by rw[length_drop,hlm];omega),<- map_drop];rfl
   ·cases hq
  ·simp only[mem_cons,not_mem_nil,or_false] at hq;rcases hq with rfl | rfl
   ·show _=some (HB.darr 44 1 ((es.map LE.row).map (List.map (mp F))));rw[row_mv,ees];show _=_;rw[FK_];rfl
   ·show _=some (HB.darr 44 1 [[D.arr (F 5000) 41 2 0 2],[D.arr (F 5001) 41 2 0 (l.length - 2)]]);rw[F5,F51];show _=_;rw[FK1_];rfl
 have e_rf:List.map (qmp F) [(FK,HB.darr 44 1 (es.map LE.row)),(FK1,HB.darr 44 1 [[D.arr 5000 41 2 0 2],[D.arr 5001 41 2 0 (l.length - 2)]])] =
   [(FK1,HB.darr 44 1 ((A++mkL 800 l::B).map LE.row)),(34,HB.darr 44 1 [[D.arr 30 41 2 0 2],[D.arr 33 41 2 0 (l.length - 2)]])]:=by
  show [(F FK,HB.darr 44 1 ((es.map LE.row).map (List.map (mp F)))),(F FK1,HB.darr 44 1 [[D.arr (F 5000) 41 2 0 2],[D.arr (F 5001) 41 2 0 (l.length - 2)]])]=_;rw[row_mv,ees,FK_,FK1_,F5,F51]
 have e_out:List.map (qmp F) [(NK,HB.darr 44 1 ((es.map LE.row).take A.length++[[D.arr 5000 41 2 0 2],[D.arr 5001 41 2 0 (l.length - 2)]]++(es.map LE.row).drop (A.length+1)))] =
   [(35,HB.darr 44 1 ((A++(⟨30,0,2,l.take 2⟩:LE)::(⟨33,0,l.length - 2,l.drop 2⟩:LE)::B).map LE.row))]:=by
  show [(F NK,HB.darr 44 1 (((es.map LE.row).take A.length++[[D.arr 5000 41 2 0 2],[D.arr 5001 41 2 0 (l.length - 2)]]++(es.map LE.row).drop (A.length+1)).map (List.map (mp F))))]=_;rw[map_append,map_append,map_take,map_drop,row_mv,ees,NK_]
  congr 3
  rw[map_append,map_append,map_cons,map_cons,map_cons];have hAl:A.length=(A.map LE.row).length:=by rw[length_map]
  rw[hAl,take_left',show (A.map LE.row).length+1=(A.map LE.row++[(mkL 800 l).row]).length by simp,show A.map LE.row++(mkL 800 l).row::B.map LE.row=(A.map LE.row++[(mkL 800 l).row])++B.map LE.row by simp,drop_left',append_assoc]
  ·show _++([[D.arr (F 5000) 41 2 0 2],[D.arr (F 5001) 41 2 0 (l.length - 2)]]++_)=_;rw[F5,F51];rfl
  ·rfl
  ·rfl
 have e_res:pmp F (.d (.arr NK 44 1 0 ((es.map LE.row).length+1)))=.d (.arr 35 44 1 0 (A.length+1+B.length+1)):=by
  show PV.d (.arr (F NK) _ 1 0 _)=_;rw[NK_,hrowsl]
 rw[e_rf,e_out,e_res];have NF:∀q:Rf,∀k∈q.map Prod.fst,rfHas k ((famT esR []).map (qmp F)++q)=true:=fun q k hk=>rfHas_of (by rw[map_append];exact mem_append_right _ hk);refine newP_of (fun p hp=>?_) ?_
 ·have hp:p∈[(FK1,none),(34,none),(35,some _)]:=hp;simp only[mem_cons,not_mem_nil,or_false] at hp;rcases hp with rfl | rfl | rfl
  ·exact .inl (NF _ FK1 (by simp))
  ·exact .inl (NF _ 34 (by simp))
  ·exact .inr rfl
 ((conv=>whnf);repeat' ((first|(with_reducible first|apply a_|apply b_|apply c_)|((with_reducible first|apply d_|apply e_|apply f_|apply g_|apply h_);first|omega|simp only[q_]<;>omega)|((with_reducible apply i_);first|omega|simp only[q_]<;>omega)|((with_reducible apply h_);first|decide|kernel_rfl)|refine s_ (by decide) ?_|refine t_ (by decide) ?_|with_reducible first|apply l_|apply m_|apply n_|apply o_|refine p_ (fun _=>?_) (fun _=>?_))<;>conv=>whnf));obtain⟨esN,hesN⟩:∃esN,esN=A++mkL 5000 (l.take 2)::mkL 5001 (l.drop 2)::B:=⟨_,rfl⟩;have hnames:∀k∈namesT esN us,k∈namesT (A++B) us\/k=5000\/k=5001:=fun k hk=>by
  rw[hesN] at hk;simp only[namesT,mem_append,map_append,map_cons,mem_cons,mkL_k] at hk ⊢;rcases hk with (h | h | h | h) | h
  ·exact .inl (.inl (.inl h))
  ·exact .inr (.inl h)
  ·exact .inr (.inr h)
  ·exact .inl (.inl (.inr h))
  ·exact .inl (.inr h)
 have hnN:NmT esN us:=by
  have hp:(namesT esN us).Perm ([5000,5001]++namesT (A++B) us):=perm_iff_count.2 fun a=>by
   rw[hesN];simp only[namesT,count_append,map_append,map_cons,count_cons,count_nil,mkL_k];omega
  refine⟨hp.nodup_iff.2 (nodup_append.2 ⟨by decide,hnAB.nd,fun x hx y hy e=>?_⟩),fun k hk=>?_⟩
  ·subst e;simp only[mem_cons,not_mem_nil,or_false] at hx;rcases hx with rfl | rfl
   ·exact h5.1 (nAB _ hy)
   ·exact h5.2 (nAB _ hy)
  ·rcases hnames k hk with h | rfl | rfl
   ·exact hnAB.inn k h
   ·exact (by decide:5000∈nT)
   ·exact (by decide:5001∈nT)
 have hesNl:esN.length=A.length+1+B.length+1:=by rw[hesN,length_append,length_cons,length_cons];omega
 have htl:(l.take 2).length=2:=by rw[length_take];omega
 have hdl:(l.drop 2).length=l.length - 2:=length_drop;have hokN:∀e∈esN,e.ok:=fun e he=>by
  rw[hesN] at he;simp only[mem_append,mem_cons] at he;rcases he with h | rfl | rfl | h
  ·exact hok e (mem_append_left _ h)
  ·exact (show 0+(l.take 2).length<=(l.take 2).length by omega)
  ·exact (show 0+(l.drop 2).length<=(l.drop 2).length by omega)
  ·exact hok e (mem_append_right _ h)
 have hfN:∀i,i<=11->i+3000∉namesT esN us:=fun i hi hm=>by
  rcases hnames _ hm with h | h | h
  ·exact hfr i hi (nAB _ h)
  ·omega
  ·omega
 rw[<- hesN];obtain⟨F1,hF1⟩:∃F1,F1=Fl [(950,35),(5000,30),(5001,33)]:=⟨_,rfl⟩;have F1N:∀k∈namesT es us,F1 k=k:=fun k hk=>by
  have hb:=nT_big k (hn.inn k hk);rw[hF1];refine Fl_no fun p hp=>?_;simp only[mem_cons,not_mem_nil,or_false] at hp;rcases hp with rfl | rfl | rfl
  ·show 950≠k;omega
  ·exact fun e=>h5.1 (by rw[show 5000=k from e];exact hk)
  ·exact fun e=>h5.2 (by rw[show 5001=k from e];exact hk)
 have f1A:A.map (LE.mv F1)=A:=mv_same fun e he=>F1N _ (nAB _ (mem_append_left _ (mem_map.2 ⟨e,mem_append_left _ he,rfl⟩)));have f1B:B.map (LE.mv F1)=B:=mv_same fun e he=>F1N _ (nAB _ (mem_append_left _ (mem_map.2 ⟨e,mem_append_right _ he,rfl⟩)));have f1e:esN.map (LE.mv F1)=A++(⟨30,0,2,l.take 2⟩:LE)::(⟨33,0,l.length - 2,l.drop 2⟩:LE)::B:=by
  rw[hesN,map_append,map_cons,map_cons,f1A,f1B];show A++(⟨F1 5000,0,(l.take 2).length,l.take 2⟩:LE)::(⟨F1 5001,0,(l.drop 2).length,l.drop 2⟩:LE)::B=_;rw[htl,hdl,hF1];rfl
 have f1u:us.map (umv F1)=us:=umv_same fun p hp=>F1N _ (mem_append_right _ (mem_map.2 ⟨p,hp,rfl⟩));refine Smc.cut (le:=[(0,.d (.ptr FK 0)),(1,pInt .i64 0),(2,pInt .i64 A.length)]) (lh:=[]++(nearT FK 950 FK2 esN us++famT esN us)) (m:=[FK,FK1,FK2,950]++nT)
  (wk_has F1 (near:=[]) ?h1 ?h2 ?h3 ?h4 (fun q hq=>(by cases hq)) ?h5) ?_
 case h1=>
  rw[f1e,f1u,show F1 FK=FK by rw[hF1];rfl,show F1 950=35 by rw[hF1];rfl,show F1 FK2=FK2 by rw[hF1];rfl];refine has_of ?_ rfl rfl (fun e he=>?_) (fun p hp=>?_)
  ·rw[length_append,length_cons,length_cons,show A.length+(B.length+1+1)=A.length+1+B.length+1 by omega];rfl
  ·simp only[mem_append,mem_cons] at he;have fam:∀e∈A++B,e.fam∈famT (A++B) us:=fun e he=>mem_append_left _ (mem_map.2 ⟨e,he,rfl⟩);rcases he with h | rfl | rfl | h
   ·have hm:=fam e (mem_append_left _ h);have hb:=(hR.keys e.fam hm).1;repeat refine app_fam rfl hb ?_
    exact look e.fam hm
   ·refine (leaf_eq ?_:_);rw[drop_zero,<- map_take]
   ·refine (leaf_eq ?_:_);rw[take_of_length_le (by rw[length_drop,hlm];omega),<- map_drop]
   ·have hm:=fam e (mem_append_right _ h);have hb:=(hR.keys e.fam hm).1;repeat refine app_fam rfl hb ?_
    exact look e.fam hm
  ·have hm:ufam p∈famT (A++B) us:=mem_append_right _ (mem_map.2 ⟨p,hp,rfl⟩);have hb:=(hR.keys (ufam p) hm).1;repeat refine app_fam rfl hb ?_
   exact look (ufam p) hm
 case h2=>
  intro k hk;rcases mem_append.1 hk with hk | hk
  ·refine⟨mem_append_left _ ?_,?_⟩
   ·simp only[mem_cons,not_mem_nil,or_false] at hk ⊢;rcases hk with h | h | h
    ·exact .inl h
    ·exact .inr (.inl h)
    ·exact .inr (.inr (.inl h))
   ·simp only[mem_cons,not_mem_nil,or_false] at hk;rw[hF1];rcases hk with rfl | rfl | rfl<;>rfl
  ·exact⟨mem_append_right _ (hn.inn k hk),F1N k hk⟩
 case h3=>
  intro k hk;rcases mem_append.1 hk with hk | hk
  ·refine mem_append_left _ ?_;simp only[mem_cons,not_mem_nil,or_false] at hk ⊢;rcases hk with h | h | h
   ·exact .inl h
   ·exact .inr (.inr (.inr h))
   ·exact .inr (.inr (.inl h))
  ·exact mem_append_right _ (hnN.inn k hk)
 case h4=>
  rw[<- names_mv,f1e,f1u];show ([]++([F1 FK,F1 950,F1 FK2]++_)).Nodup;rw[show F1 FK=FK by rw[hF1];rfl,show F1 950=35 by rw[hF1];rfl,show F1 FK2=FK2 by rw[hF1];rfl];refine nd_perm (lits:=[FK,35,FK2,30,33]) (names:=namesT (A++B) us) (perm_iff_count.2 fun a=>?_) rfl rfl hnAB.nd hnAB.inn;simp only[namesT,count_append,map_append,map_cons,map_nil,count_cons,count_nil];omega
 case h5=>
  have m:∀k∈[FK,FK1,FK2,950]++nT,fnL (mR F1 ([FK,FK1,FK2,950]++nT)) k=some (F1 k):=fun k hk=>mR_in hk;refine⟨⟨rfl,?_,rfl⟩,.inl rfl,.inl rfl,trivial⟩;rw[m FK (by simp),hF1];rfl
 have GFF:∀(G:Nat->Nat),(∀k,k=FK\/k=FK1\/k=FK2->G k=k)->(∀k∈namesT es us,G k=k)->∀k∈[FK,FK1,FK2]++namesT es us,k∈[FK,FK1,FK2,NK1,NK2]++nT/\G k=k:=fun G h1 h2 k hk=>by
  rcases mem_append.1 hk with hk | hk
  ·simp only[mem_cons,not_mem_nil,or_false] at hk;exact⟨mem_append_left _ (by rcases hk with rfl | rfl | rfl<;>simp),h1 k hk⟩
  ·exact⟨mem_append_right _ (hn.inn k hk),h2 k hk⟩
 cases us with
 | nil=>
  refine Smc.of rfl ?_;have n2:(0+1)*24<=140737488355328:=by decide
  ((conv=>whnf);repeat' ((first|(with_reducible first|apply a_|apply b_|apply c_)|((with_reducible first|apply d_|apply e_|apply f_|apply g_|apply h_);first|omega|simp only[q_]<;>omega)|((with_reducible apply i_);first|omega|simp only[q_]<;>omega)|((with_reducible apply h_);first|decide|kernel_rfl)|refine s_ (by decide) ?_|refine t_ (by decide) ?_|(refine EmpOr.emp ?_)|(refine Need.by1 24 rfl n2 ?_)|with_reducible first|apply l_|apply m_|apply n_|apply o_|refine p_ (fun _=>?_) (fun _=>?_))<;>conv=>whnf));have hf0:=hfr 0 (by decide);have hfN0:=hfN 0 (by decide);obtain⟨G,hG⟩:∃G,G=Fl [(NK1,950),(NK2,91),(3000,89)]:=⟨_,rfl⟩;have GN:∀k,k∈nT->k≠3000->G k=k:=fun k hk hne=>by
   have hb:=nT_big k hk;rw[hG];refine Fl_no fun p hp=>?_;simp only[mem_cons,not_mem_nil,or_false] at hp;rcases hp with rfl | rfl | rfl
   ·show 2000001≠k;omega
   ·show 2000002≠k;omega
   ·exact fun e=>hne e.symm
  have ge1:esN.map (LE.mv G)=esN:=mv_same fun e he=>GN _ (es_in hnN e he) fun e'=>hfN0 (by rw[show 0+3000=3000 from rfl,<- e'];exact mem_append_left _ (mem_map.2 ⟨e,he,rfl⟩));have ge2:(riseQ [] A.length 0).map (umv G)=[(89,[2])]:=by
   show [(G 3000,[2])]=_;rw[hG];rfl
  refine ret_has ([FK,FK1,FK2,NK1,NK2]++nT) G (by rw[hG];rfl) (us:=riseQ [] A.length 0) ?n1 (GFF G (fun k hk=>?n2) fun k hk=>GN k (hn.inn k hk) fun e=>hf0 (by rw[show 0+3000=3000 from rfl,<- e];exact hk)) (fun k hk=>?n3) ?n4 rfl
  case n1=>
   rw[ge1,ge2,show G NK1=950 by rw[hG];rfl,show G NK2=91 by rw[hG];rfl];have hRN:=nm_fam hnN;refine has_of rfl rfl rfl (fun e he=>?_) (fun p hp=>?_)
   ·have hm:e.fam∈famT esN ([]:List UE):=mem_append_left _ (mem_map.2 ⟨e,he,rfl⟩);have hb:=(hRN.keys e.fam hm).1;repeat refine app_fam rfl hb ?_
    exact hRN.past (a:=nearT FK 950 FK2 esN []) rfl hm
   ·rw[mem_singleton] at hp;subst hp;rfl
  case n2=>
   rw[hG];rcases hk with rfl | rfl | rfl<;>rfl
  case n3=>
   rcases mem_append.1 hk with hk | hk
   ·refine mem_append_left _ ?_;simp only[mem_cons,not_mem_nil,or_false] at hk ⊢;rcases hk with rfl | rfl | rfl<;>simp
   ·rcases mem_append.1 hk with hk | hk
    ·exact mem_append_right _ (hnN.inn k (mem_append_left _ hk))
    ·rw[mem_singleton.1 hk];exact mem_append_right _ (in_new (k:=0) (by decide))
  case n4=>
   rw[<- names_mv,ge1,ge2,show G NK1=950 by rw[hG];rfl,show G NK2=91 by rw[hG];rfl];refine nd_perm (lits:=[FK,950,91,89]) (names:=namesT esN []) (perm_iff_count.2 fun a=>?_) rfl rfl hnN.nd hnN.inn;simp only[namesT,count_append,map_cons,map_nil,count_cons,count_nil];omega
 | cons p Q=>
  obtain⟨k1,u⟩:=p;obtain⟨hu4,hus4,hv64,hcQ⟩:=hc;have hul:Q.length+1<=9:=hul;have hk1:k1∈namesT es ((k1,u)::Q):=mem_append_right _ mem_cons_self;have hk1T:=hn.inn k1 hk1;have hk1b:=nT_big k1 hk1T;have hnQ:NmT esN Q:=nm_sub hnN (List.Sublist.refl _) (sublist_cons_self _ _);have hk1n:k1∉namesT esN Q:=by
   have hp:(namesT esN ((k1,u)::Q)).Perm (k1::namesT esN Q):=perm_iff_count.2 fun a=>by
    simp only[namesT,count_append,map_cons,count_cons];omega
   exact (nodup_cons.1 (hp.nodup_iff.1 hnN.nd)).1
  have nQ:∀k∈namesT esN Q,k∈namesT esN ((k1,u)::Q):=fun k hk=>by
   rcases mem_append.1 hk with hk | hk
   ·exact mem_append_left _ hk
   ·exact mem_append_right _ (mem_cons_of_mem _ hk)
  obtain⟨F2,hF2⟩:∃F2,F2=Fl [(901,k1)]:=⟨_,rfl⟩;have F2N:∀k,k≠901->F2 k=k:=fun k hk=>by rw[hF2,Fl_skip hk];rfl
  have F29:F2 901=k1:=by rw[hF2];exact Fl_hit
  have f2e:esN.map (LE.mv F2)=esN:=mv_same fun e he=>F2N _ (by have:=nT_big _ (es_in hnN e he);omega);have f2Q:Q.map (umv F2)=Q:=umv_same fun p hp=>F2N _ (by have:=nT_big _ (us_in hnQ p hp);omega);have f2u:((901,u)::Q).map (umv F2)=(k1,u)::Q:=by
   rw[map_cons,f2Q];show (F2 901,u)::Q=_;rw[F29]
  refine Smc.cut (le:=[(0,.d (.ptr FK 0)),(1,pInt .i64 0),(2,pInt .i64 A.length)])
   (lh:=[(FK,.box 43 [.arr 950 44 1 0 esN.length,.arr FK2 61 1 0 (Q.length+1)]),(950,.darr 44 1 (esN.map LE.row)),(FK2,.darr 61 1 (((901,u)::Q).map urow)),(901,lvlH u)]++famT esN Q) (m:=[FK,FK1,FK2,950,901]++nT)
   (wk_sub (wk_has F2 (near:=[]) (b:=FK) (l:=950) (u:=FK2) (es:=esN) (us:=(901,u)::Q) ?g1 ?g2 ?g3 ?g4 (fun q hq=>(by cases hq)) ?g5) ?g6) ?_
  case g1=>
   rw[f2e,f2u,F2N FK (by decide),F2N 950 (by decide),F2N FK2 (by decide)];exact nodup_look (tIn_nd rfl hnN)
  case g2=>
   intro k hk;rcases mem_append.1 hk with hk | hk
   ·simp only[mem_cons,not_mem_nil,or_false] at hk;refine⟨mem_append_left _ (by rcases hk with rfl | rfl | rfl<;>simp),F2N k (by rcases hk with rfl | rfl | rfl<;>decide)⟩
   ·have:=hn.inn k hk;exact⟨mem_append_right _ this,F2N k (by have:=nT_big k this;omega)⟩
  case g3=>
   intro k hk;rcases mem_append.1 hk with hk | hk
   ·refine mem_append_left _ ?_;simp only[mem_cons,not_mem_nil,or_false] at hk;rcases hk with rfl | rfl | rfl<;>simp
   ·rcases mem_append.1 hk with hk | hk
    ·exact mem_append_right _ (hnQ.inn k (mem_append_left _ hk))
    ·rcases mem_cons.1 hk with rfl | hk
     ·exact mem_append_left _ (show 901∈[FK,FK1,FK2,950,901] by simp)
     ·exact mem_append_right _ (hnQ.inn k (mem_append_right _ hk))
  case g4=>
   rw[<- names_mv,f2e,f2u];show ([]++([F2 FK,F2 950,F2 FK2]++_)).Nodup;rw[F2N FK (by decide),F2N 950 (by decide),F2N FK2 (by decide)];have:=tIn_nd (b:=FK) (l:=950) (u:=FK2) rfl hnN;rw[tIn_keys] at this;exact this
  case g5=>
   have m:∀k∈[FK,FK1,FK2,950,901]++nT,fnL (mR F2 ([FK,FK1,FK2,950,901]++nT)) k=some (F2 k):=fun k hk=>mR_in hk;refine⟨⟨rfl,?_,rfl⟩,.inl rfl,.inl rfl,trivial⟩;rw[m FK (by simp),F2N FK (by decide)]
  case g6=>
   intro q hq;show q∈[]++(nearT FK 950 FK2 esN ((901,u)::Q)++famT esN ((901,u)::Q));rw[nil_append];rcases mem_append.1 hq with hq | hq
   ·simp only[mem_cons,not_mem_nil,or_false] at hq;rcases hq with h | h | h | h
    ·exact mem_append_left _ (by rw[h];exact mem_cons_self)
    ·exact mem_append_left _ (by rw[h];simp)
    ·exact mem_append_left _ (by rw[h];simp)
    ·refine mem_append_right _ (mem_append_right _ ?_);rw[h];exact mem_cons_self
   ·rcases mem_append.1 hq with hq | hq
    ·exact mem_append_right _ (mem_append_left _ hq)
    ·exact mem_append_right _ (mem_append_right _ (mem_cons_of_mem _ hq))
  refine Smc.of rfl ?_;((conv=>whnf);repeat' ((first|(with_reducible first|apply a_|apply b_|apply c_)|((with_reducible first|apply d_|apply e_|apply f_|apply g_|apply h_);first|omega|simp only[q_]<;>omega)|((with_reducible apply i_);first|omega|simp only[q_]<;>omega)|((with_reducible apply h_);first|decide|kernel_rfl)|refine s_ (by decide) ?_|refine t_ (by decide) ?_|with_reducible first|apply l_|apply m_|apply n_|apply o_|refine p_ (fun _=>?_) (fun _=>?_))<;>conv=>whnf));have hRQ:=nm_fam hnQ;have look2:∀q∈famT esN Q,hpL ([(FK,.box 43 [.arr 950 44 1 0 esN.length,.arr FK2 61 1 0 (Q.length+1)]),(950,.darr 44 1 (esN.map LE.row)),(FK2,.darr 61 1 (((901,u)::Q).map urow)),(901,lvlH u)]++famT esN Q) q.1=some q.2:=fun q hq=>hRQ.past rfl hq;obtain⟨F3,hF3⟩:∃F3,F3=Fl [(FK1,950),(k1,901)]:=⟨_,rfl⟩;have F30:F3 FK=FK:=by rw[hF3,Fl_skip (by decide),Fl_skip (by show 1000000≠k1;omega)];rfl
  have F31:F3 FK1=950:=by rw[hF3];exact Fl_hit
  have F32:F3 FK2=FK2:=by rw[hF3,Fl_skip (by decide),Fl_skip (by show 1000002≠k1;omega)];rfl
  have F3k:F3 k1=901:=by rw[hF3,Fl_skip (by show k1≠1000001;omega)];exact Fl_hit
  have F3N:∀k∈namesT esN Q,F3 k=k:=fun k hk=>by
   have hb:=nT_big k (hnQ.inn k hk);rw[hF3,Fl_skip (by show k≠1000001;omega),Fl_skip (fun e=>hk1n (by rw[<- e];exact hk))];rfl
  have f3e:esN.map (LE.mv F3)=esN:=mv_same fun e he=>F3N _ (mem_append_left _ (mem_map.2 ⟨e,he,rfl⟩));have f3Q:Q.map (umv F3)=Q:=umv_same fun p hp=>F3N _ (mem_append_right _ (mem_map.2 ⟨p,hp,rfl⟩));have f3u:∀u',((k1,u')::Q).map (umv F3)=(901,u')::Q:=fun u'=>by
   rw[map_cons,f3Q];show (F3 k1,u')::Q=_;rw[F3k]
  have ndl:∀{M lits:List Nat},M.Perm (lits++namesT esN Q)->nd lits=true->lits.all farK=true->M.Nodup:=fun hp h1 h2=>nd_perm hp h1 h2 hnQ.nd hnQ.inn;have hu2:=two_sum hu4;obtain⟨hupl,hnode1,hnode2⟩:=nodeF_spec u A.length (by omega);obtain⟨up,hup⟩:∃up,up=nodeF u A.length:=⟨_,rfl⟩;refine call_ro (s_nodeO hnN hokN 0 u rfl A.length (by omega) (by omega) (by omega)) F3 hnN (map_nd_inj ?q1) (fun x hx=>?q2) trivial ?q3 ?q4 (fun rf=>?_)
  case q1=>
   rw[map_append,<- names_mv,f3e,f3u];show ([F3 FK,F3 FK1,F3 FK2]++_).Nodup;rw[F30,F31,F32];refine ndl (lits:=[FK,950,FK2,901]) (perm_iff_count.2 fun a=>?_) rfl rfl;simp only[namesT,count_append,map_cons,map_nil,count_cons,count_nil];omega
  case q2=>
   simp only[mem_cons,not_mem_nil,or_false] at hx;rcases hx with rfl | rfl | rfl
   ·rfl
   ·trivial
   ·trivial
  case q3=>
   show [PV.d (.ptr (F3 FK) 0),_,_]=_;rw[F30];rfl
  case q4=>
   rw[F30,F31,F32,f3e,f3u];refine has_of rfl rfl rfl (fun e he=>?_) (fun p hp=>?_)
   ·have hm:e.fam∈famT esN Q:=mem_append_left _ (mem_map.2 ⟨e,he,rfl⟩);have hb:=(hRQ.keys e.fam hm).1;repeat refine app_fam rfl hb ?_
    exact look2 e.fam hm
   ·rcases mem_cons.1 hp with rfl | hp
    ·rfl
    ·have hm:ufam p∈famT esN Q:=mem_append_right _ (mem_map.2 ⟨p,hp,rfl⟩);have hb:=(hRQ.keys (ufam p) hm).1;repeat refine app_fam rfl hb ?_
     exact look2 (ufam p) hm
  rw[<- hup] at hupl hnode1 hnode2 ⊢;have hup4:=hu4 u[up] (List.getElem_mem hupl);have hum:((u.map natC).map (List.map D.c)).length=u.length:=by rw[length_map,length_map]
  have r4:((u.map natC).map (List.map D.c))[0+((up:Nat):Int).toNat]? = some [.c (.v (.int .i64 (u[up]:Int)))]:=by
   rw[show 0+((up:Nat):Int).toNat=up by omega,List.getElem?_map,List.getElem?_map,List.getElem?_eq_getElem hupl];rfl
  have r5:∀Y,(((u.map natC).map (List.map D.c)).set (0+((up:Nat):Int).toNat) Y)[0+((up:Nat):Int).toNat]? = some Y:=fun Y=>List.getElem?_set_self (by rw[hum];omega);have hgu:u.getD up 0=u[up]:=by rw[List.getD_eq_getElem?_getD,List.getElem?_eq_getElem hupl];rfl
  have r3:(((901,u)::Q).map urow)[0+Int.toNat 0]? = some [.arr 901 3 1 0 u.length]:=rfl;rw[riseQ,<- hup,hgu];obtain⟨u',hu'⟩:∃u',u'=u.set up (u[up]+1):=⟨_,rfl⟩;have hu'l:u'.length=u.length:=by rw[hu'];exact length_set ..
  by_cases h4:4<u[up]+1
  ·rw[if_pos h4];((conv=>whnf);repeat' ((first|(with_reducible first|apply a_|apply b_|apply c_)|((with_reducible first|apply d_|apply e_|apply f_|apply g_|apply h_);first|omega|simp only[q_]<;>omega)|((with_reducible apply i_);first|omega|simp only[q_]<;>omega)|((with_reducible apply h_);first|decide|kernel_rfl)|refine s_ (by decide) ?_|refine t_ (by decide) ?_|(first|refine Row.mk _ r3 ?_|refine Row.mk _ r4 ?_|refine Row.mk _ (r5 _) ?_)|with_reducible first|apply l_|apply m_|apply n_|apply o_|refine p_ (fun _=>?_) (fun _=>?_))<;>conv=>whnf));have hu'g:u'[up]'(by omega)=u[up]+1:=by simp only[hu',List.getElem_set_self]
   have hu'd:u'.getD up 0=u[up]+1:=by rw[List.getD_eq_getElem?_getD,List.getElem?_eq_getElem (by omega),getD_some,hu'g]
   have hcut:u'.take up++[2,u'.getD up 0 - 2]++u'.drop (up+1)=u.take up++[2,u[up]+1 - 2]++u.drop (up+1):=by
    rw[hu'd,hu',take_set_of_le (Nat.le_refl _),List.drop_set,if_pos (by omega)]
   have hn2:NmT esN ((k1,u')::Q):=nm_val (A:=[]) u' hnN;have hfNu:∀i,i<=11->i+3000∉namesT esN ((k1,u')::Q):=hfN;have hs:=s_splitU Q [] k1 u' up esN hn2 hokN (fun i h1 h2 hm=>hfNu i h2 hm) (by show 0+1+Q.length<=10;omega) (by omega) (by omega) (by omega) (by rw[hu'g];omega) (by rw[hu'l];exact hcQ);rw[hcut] at hs;obtain⟨X,hX⟩:∃X,X=(0+3000,u.take up++[2,u[up]+1 - 2]++u.drop (up+1))::riseQ Q up (0+1):=⟨_,rfl⟩;have hs:CallS Try.prog 17 [.d (.ptr FK 0),pInt .i64 (0+1),pInt .i64 up] [] (tIn esN ((k1,u')::Q)) (.tup []) (tOut esN X):=by rw[hX];exact hs
   rw[<- hX];have hfQ:∀j,j<=11->j+3000∉namesT esN Q:=fun j h2 hm=>hfN j h2 (nQ _ hm);have hQk:∀k∈Q.map Prod.fst,k∈namesT esN Q:=fun k hk=>mem_append_right _ hk;have hQnd:(Q.map Prod.fst).Nodup:=(nodup_append.1 hnQ.nd).2.1;obtain⟨x1,x2⟩:=riseQ_nd Q up (0+1) hQnd fun j h1 h2 hm=>hfQ j (by omega) (hQk _ hm);have hXk:(X.map Prod.fst).Nodup/\∀k∈X.map Prod.fst,k∈Q.map Prod.fst\/∃j,0<=j/\j<=11/\k=j+3000:=by
    rw[hX,map_cons];refine⟨nodup_cons.2 ⟨fun hm=>?_,x1⟩,fun k hk=>?_⟩
    ·rcases x2 _ hm with hm | ⟨j,j1,j2,e⟩
     ·exact hfQ 0 (by decide) (hQk _ hm)
     ·have e:0+3000=j+3000:=e;omega
    ·rcases mem_cons.1 hk with rfl | hk
     ·exact .inr ⟨0,Nat.le_refl _,by decide,rfl⟩
     ·rcases x2 _ hk with hm | ⟨j,j1,j2,e⟩
      ·exact .inl hm
      ·exact .inr ⟨j,zero_le _,by omega,e⟩
   have hn3:NmT esN X:=nm_rise (P:=[]) (Q:=Q) hnQ 0 (fun j h1 h2=>hfQ j h2) hXk.1 hXk.2;have okT:∀k∈nT,okK k:=fun k hk=>.inl (nT_big k hk);have notn:∀(es:List LE) (us:List UE),NmT es us->(∀i,i<=11->i+3000∉namesT es us)->∀k∈namesT es us,newF0 k=k:=fun es us hn hf k hk=>by
    have h1:=nT_big k (hn.inn k hk);have h2:¬(3000<=k/\k<=3011):=fun h=>hf (k - 3000) (by omega) (by rw[show k - 3000+3000=k by omega];exact hk);have h3:¬(3012<=k/\k<4000):=fun h=>by
     have hm:=hn.inn k hk;simp only[nT,mem_append,mem_map,mem_range,mem_cons,not_mem_nil,or_false] at hm;omega
    unfold newF0;rw[if_neg (by show k≠2000001;omega),if_neg (by show k≠2000002;omega),if_neg (by omega)]
   have fix:=notn esN Q hnQ hfQ;have fixU:=notn es ((k1,u)::Q) hn hfr;have fixF:∀k,k=FK\/k=FK1\/k=FK2->newF0 k=k:=fun k hk=>by
    have:k=1000000\/k=1000001\/k=1000002:=hk;unfold newF0;rw[if_neg (by show k≠2000001;omega),if_neg (by show k≠2000002;omega),if_neg (by omega)]
   have newN1:newF0 NK1=93:=by unfold newF0;rw[if_pos rfl]
   have newN2:newF0 NK2=94:=by unfold newF0;rw[if_neg (by decide),if_pos rfl]
   obtain⟨G,hG⟩:∃G:Nat->Nat,G=fun k=>if k=k1 then 901 else if k=FK1 then 950 else newF0 k:=⟨_,rfl⟩
   have Gk:G k1=901:=by rw[hG];exact if_pos rfl
   have Gn:∀k,k≠k1->k≠FK1->G k=newF0 k:=fun k hk h2=>by rw[hG];exact (if_neg hk).trans (if_neg h2)
   have g1:G FK1=950:=by rw[hG];exact (if_neg (by show 1000001≠k1;omega)).trans (if_pos rfl)
   have GnT:∀k∈nT,k≠k1->G k=newF0 k:=fun k hk hne=>Gn k hne (by have:=nT_big k hk;show k≠1000001;omega);have GQ:∀k∈namesT esN Q,G k=k:=fun k hk=>by rw[GnT k (hnQ.inn k hk) fun e=>hk1n (by rw[<- e];exact hk)];exact fix k hk
   have ge1:esN.map (LE.mv G)=esN:=mv_same fun e he=>GQ _ (mem_append_left _ (mem_map.2 ⟨e,he,rfl⟩));have gQ:Q.map (umv G)=Q:=umv_same fun p hp=>GQ _ (mem_append_right _ (mem_map.2 ⟨p,hp,rfl⟩));have ge2:((k1,u')::Q).map (umv G)=(901,u')::Q:=by
    rw[map_cons,gQ];show (G k1,u')::Q=_;rw[Gk]
   have g0:G FK=FK:=by rw[Gn _ (by show 1000000≠k1;omega) (by decide)];exact fixF _ (.inl rfl)
   have g2:G FK2=FK2:=by rw[Gn _ (by show 1000002≠k1;omega) (by decide)];exact fixF _ (.inr (.inr rfl))
   have gN1:G NK1=93:=by rw[Gn _ (by show 2000001≠k1;omega) (by decide)];exact newN1
   have gN2:G NK2=94:=by rw[Gn _ (by show 2000002≠k1;omega) (by decide)];exact newN2
   have hX1:∀k∈namesT esN X,k≠k1:=fun k hk e=>by
    subst e;rcases mem_append.1 hk with hk | hk
    ·exact hk1n (mem_append_left _ hk)
    ·rcases hXk.2 k hk with hq | ⟨j,j1,j2,e⟩
     ·exact hk1n (hQk _ hq)
     ·exact hfr j j2 (by rw[<- e];exact hk1)
   refine call_tree hs G hn2 hn3 (fun a ha b hb e=>?w1) (fun x hx=>?w2) trivial ?w3 ?w4 ?_
   case w1=>
    have okl:∀k∈[FK,FK1,FK2,NK1,NK2]++(namesT esN ((k1,u')::Q)++namesT esN X),okK k:=fun k hk=>by
     rcases mem_append.1 hk with hk | hk
     ·simp only[mem_cons,not_mem_nil,or_false] at hk;rcases hk with rfl | rfl | rfl | rfl | rfl<;>exact .inr (by decide)
     ·rcases mem_append.1 hk with hk | hk
      ·exact okT k (hn2.inn k hk)
      ·exact okT k (hn3.inn k hk)
    have big:∀k,okK k->newF0 k≠901/\newF0 k≠950:=fun k hk=>by
     unfold newF0;have h1:NK1=2000001:=rfl;have h2:NK2=2000002:=rfl;rw[h1,h2];refine⟨?_,?_⟩
     ·repeat' split
      all_goals omega
     ·repeat' split
      all_goals omega
    have val:∀k,okK k->(k=k1/\G k=901)\/(k≠k1/\k=FK1/\G k=950)\/(k≠k1/\k≠FK1/\G k=newF0 k):=fun k hk=>by
     by_cases h1:k=k1
     ·exact .inl ⟨h1,by rw[h1];exact Gk⟩
     ·by_cases h2:k=FK1
      ·exact .inr (.inl ⟨h1,h2,by rw[h2];exact g1⟩)
      ·exact .inr (.inr ⟨h1,h2,Gn k h1 h2⟩)
    have oa:=okl a ha;have ob:=okl b hb;rcases val a oa with ⟨a1,a2⟩ | ⟨a1,a2,a3⟩ | ⟨a1,a2,a3⟩<;>rcases val b ob with ⟨b1,b2⟩ | ⟨b1,b2,b3⟩ | ⟨b1,b2,b3⟩
    ·rw[a1,b1]
    ·rw[a2,b3] at e;cases e
    ·rw[a2,b3] at e;exact absurd e.symm (big b ob).1
    ·rw[a3,b2] at e;cases e
    ·rw[a2,b2]
    ·rw[a3,b3] at e;exact absurd e.symm (big b ob).2
    ·rw[a3,b2] at e;exact absurd e (big a oa).1
    ·rw[a3,b3] at e;exact absurd e (big a oa).2
    ·rw[a3,b3] at e;exact newF0_inj oa ob e
   case w2=>
    simp only[mem_cons,not_mem_nil,or_false] at hx;rcases hx with rfl | rfl | rfl
    ·rfl
    ·trivial
    ·trivial
   case w3=>
    show [PV.d (.ptr (G FK) 0),_,_]=_;rw[g0];rfl
   case w4=>
    rw[g0,g1,g2,ge1,ge2];refine has_of rfl rfl ?_ (fun e he=>?_) (fun p hp=>?_)
    ·refine congrArg (fun r=>some (HB.darr 61 1 r)) ?_;show _::_=_::_
     congr 1
     show [D.arr 901 3 1 0 _]=[D.arr 901 3 1 0 _];rw[hu'l]
    ·have hm:e.fam∈famT esN Q:=mem_append_left _ (mem_map.2 ⟨e,he,rfl⟩);have hb:=(hRQ.keys e.fam hm).1;repeat refine app_fam rfl hb ?_
     exact look2 e.fam hm
    ·rcases mem_cons.1 hp with rfl | hp
     ·refine (lvl_eq ?_:_);rw[hu',show 0+((up:Nat):Int).toNat=up by omega];exact lvl_set u up (by push_cast;rfl)
     ·have hm:ufam p∈famT esN Q:=mem_append_right _ (mem_map.2 ⟨p,hp,rfl⟩);have hb:=(hRQ.keys (ufam p) hm).1;repeat refine app_fam rfl hb ?_
      exact look2 (ufam p) hm
   rw[g0,g1,g2,gN1,gN2,ge1,ge2];have hout:∀k∈namesT esN X,k∈namesT esN Q\/∃j,j<=11/\k=j+3000:=fun k hk=>by
    rcases mem_append.1 hk with hk | hk
    ·exact .inl (mem_append_left _ hk)
    ·rcases hXk.2 k hk with hq | ⟨j,j1,j2,e⟩
     ·exact .inl (hQk _ hq)
     ·exact .inr ⟨j,j2,e⟩
   have gX:X.map (umv G)=X.map (umv newF0):=map_congr_left fun p hp=>by
    have hm:p.1∈namesT esN X:=mem_append_right _ (mem_map.2 ⟨p,hp,rfl⟩);show (G p.1,p.2)=(newF0 p.1,p.2);rw[GnT p.1 (hn3.inn _ hm) (hX1 _ hm)]
   rw[gX];obtain⟨Y,hY⟩:∃Y,Y=X.map (umv newF0):=⟨_,rfl⟩;have fe1:esN.map (LE.mv newF0)=esN:=mv_same fun e he=>fix _ (mem_append_left _ (mem_map.2 ⟨e,he,rfl⟩));have hYn:namesT esN Y=(namesT esN X).map newF0:=by rw[hY,<- names_mv,fe1]
   have hYk:∀k∈namesT esN Y,k∈namesT esN Q\/∃j,j<=11/\k=j+13000:=fun k hk=>by
    rw[hYn] at hk;obtain⟨x,hx,rfl⟩:=mem_map.1 hk;rcases hout x hx with h | ⟨j,j2,rfl⟩
    ·rw[fix x h];exact .inl h
    ·refine .inr ⟨j,j2,?_⟩;unfold newF0;rw[if_neg (by show _≠2000001;omega),if_neg (by show _≠2000002;omega),if_pos (by omega)]
   have hYd:((nearT FK 93 94 esN Y++famT esN Y).map Prod.fst).Nodup:=by
    rw[tIn_keys,hYn];have h0:([FK,NK1,NK2]++namesT esN X).Nodup:=by
     have:=tIn_nd (b:=FK) (l:=NK1) (u:=NK2) rfl hn3
     rwa [tIn_keys] at this
    have h1:(([FK,NK1,NK2]++namesT esN X).map newF0).Nodup:=nodup_map h0 (fun a ha b hb e=>newF0_inj (by
     rcases mem_append.1 ha with ha | ha
     ·simp only[mem_cons,not_mem_nil,or_false] at ha;rcases ha with rfl | rfl | rfl<;>exact .inr (by decide)
     ·exact okT _ (hn3.inn _ ha)) (by
     rcases mem_append.1 hb with hb | hb
     ·simp only[mem_cons,not_mem_nil,or_false] at hb;rcases hb with rfl | rfl | rfl<;>exact .inr (by decide)
     ·exact okT _ (hn3.inn _ hb)) e)
    rw[map_append] at h1;have e:[FK,NK1,NK2].map newF0=[FK,93,94]:=by
     show [newF0 FK,newF0 NK1,newF0 NK2]=_;rw[fixF FK (.inl rfl),newN1,newN2]
    rwa [e] at h1
   rw[<- hY];refine newP_of (fun p hp=>?_) ?_
   ·unfold deltaOf at hp;rcases mem_append.1 hp with hp | hp
    ·obtain⟨q,hq,rfl⟩:=mem_map.1 hp;exact .inl (rfHas_of (mem_map.2 ⟨q,hq,rfl⟩))
    ·obtain⟨q,hq,rfl⟩:=mem_map.1 hp;have hqk:q.1∈[FK,93,94]++namesT esN Y:=by rw[<- tIn_keys];exact mem_map.2 ⟨q,hq,rfl⟩
     have hA:∀k∈[FK,950,FK2]++namesT esN ((901,u')::Q),rfHas k (nearT FK 950 FK2 esN ((901,u')::Q)++famT esN ((901,u')::Q))=true:=fun k hk=>rfHas_of (by rw[tIn_keys];exact hk);have hAn:∀k∈namesT esN Q,k∈namesT esN ((901,u')::Q):=fun k hk=>by
      rcases mem_append.1 hk with hk | hk
      ·exact mem_append_left _ hk
      ·exact mem_append_right _ (mem_cons_of_mem _ hk)
     show rfHas q.1 _=true\/ksHas q.1 _=false;rcases mem_append.1 hqk with hk | hk
     ·simp only[mem_cons,not_mem_nil,or_false] at hk;rcases hk with e | e | e
      ·rw[e];exact .inl (hA FK (by simp))
      ·rw[e];exact .inr rfl
      ·rw[e];exact .inr rfl
     ·rcases hYk _ hk with h | ⟨j,j2,e⟩
      ·exact .inl (hA _ (mem_append_right _ (hAn _ h)))
      ·rw[e];exact .inr (ksHas_far (by omega) (by omega) rfl)
   conv=>whnf
   refine addKs_of (fun ks'=>?_);((conv=>whnf);repeat' ((first|(with_reducible first|apply a_|apply b_|apply c_)|((with_reducible first|apply d_|apply e_|apply f_|apply g_|apply h_);first|omega|simp only[q_]<;>omega)|((with_reducible apply i_);first|omega|simp only[q_]<;>omega)|((with_reducible apply h_);first|decide|kernel_rfl)|refine s_ (by decide) ?_|refine t_ (by decide) ?_|with_reducible first|apply l_|apply m_|apply n_|apply o_|refine p_ (fun _=>?_) (fun _=>?_))<;>conv=>whnf));refine ret_has ([FK,FK1,FK2,NK1,NK2]++nT) newF0 (fixF FK (.inl rfl)) (us:=X) ?y1 (GFF newF0 fixF fixU) (fun k hk=>?y2) ?y3 rfl
   case y1=>
    rw[newN1,newN2,fe1,<- hY];intro q hq;exact delta_out hYd hq
   case y2=>
    rcases mem_append.1 hk with hk | hk
    ·refine mem_append_left _ ?_;simp only[mem_cons,not_mem_nil,or_false] at hk ⊢;rcases hk with rfl | rfl | rfl<;>simp
    ·exact mem_append_right _ (hn3.inn k hk)
   case y3=>
    rw[newN1,newN2,<- hYn];rw[tIn_keys] at hYd;exact hYd
  ·rw[if_neg h4];((conv=>whnf);repeat' ((first|(with_reducible first|apply a_|apply b_|apply c_)|((with_reducible first|apply d_|apply e_|apply f_|apply g_|apply h_);first|omega|simp only[q_]<;>omega)|((with_reducible apply i_);first|omega|simp only[q_]<;>omega)|((with_reducible apply h_);first|decide|kernel_rfl)|refine s_ (by decide) ?_|refine t_ (by decide) ?_|(first|refine Row.mk _ r3 ?_|refine Row.mk _ r4 ?_|refine Row.mk _ (r5 _) ?_)|with_reducible first|apply l_|apply m_|apply n_|apply o_|refine p_ (fun _=>?_) (fun _=>?_))<;>conv=>whnf));rw[<- hu'];have hf0:=hfr 0 (by decide);have hfN0:=hfN 0 (by decide);obtain⟨G,hG⟩:∃G,G=Fl [(NK1,950),(NK2,FK2),(3000,901)]:=⟨_,rfl⟩;have GN:∀k,k∈nT->k≠3000->G k=k:=fun k hk hne=>by
    have hb:=nT_big k hk;rw[hG];refine Fl_no fun p hp=>?_;simp only[mem_cons,not_mem_nil,or_false] at hp;rcases hp with rfl | rfl | rfl
    ·show 2000001≠k;omega
    ·show 2000002≠k;omega
    ·exact fun e=>hne e.symm
   have ge1:esN.map (LE.mv G)=esN:=mv_same fun e he=>GN _ (es_in hnN e he) fun e'=>hfN0 (by rw[show 0+3000=3000 from rfl,<- e'];exact mem_append_left _ (mem_map.2 ⟨e,he,rfl⟩));have gQ:Q.map (umv G)=Q:=umv_same fun p hp=>GN _ (us_in hnQ p hp) fun e'=>hfN0 (by rw[show 0+3000=3000 from rfl,<- e'];exact nQ _ (mem_append_right _ (mem_map.2 ⟨p,hp,rfl⟩)));have ge2:((0+3000,u')::Q).map (umv G)=(901,u')::Q:=by
    rw[map_cons,gQ];show (G 3000,u')::Q=_;rw[hG];rfl
   refine ret_has ([FK,FK1,FK2,NK1,NK2]++nT) G (by rw[hG];rfl) (us:=(0+3000,u')::Q) ?o1 (GFF G (fun k hk=>?o2) fun k hk=>GN k (hn.inn k hk) fun e=>hf0 (by rw[show 0+3000=3000 from rfl,<- e];exact hk)) (fun k hk=>?o3) ?o4 rfl
   case o1=>
    rw[ge1,ge2,show G NK1=950 by rw[hG];rfl,show G NK2=FK2 by rw[hG];rfl];refine has_of rfl rfl ?_ (fun e he=>?_) (fun p hp=>?_)
    ·refine congrArg (fun r=>some (HB.darr 61 1 r)) ?_;show _::_=_::_
     congr 1
     show [D.arr 901 3 1 0 _]=[D.arr 901 3 1 0 _];rw[hu'l]
    ·have hm:e.fam∈famT esN Q:=mem_append_left _ (mem_map.2 ⟨e,he,rfl⟩);have hb:=(hRQ.keys e.fam hm).1;repeat refine app_fam rfl hb ?_
     exact look2 e.fam hm
    ·rcases mem_cons.1 hp with rfl | hp
     ·refine (lvl_eq ?_:_);rw[hu',show 0+((up:Nat):Int).toNat=up by omega];exact lvl_set u up (by push_cast;rfl)
     ·have hm:ufam p∈famT esN Q:=mem_append_right _ (mem_map.2 ⟨p,hp,rfl⟩);have hb:=(hRQ.keys (ufam p) hm).1;repeat refine app_fam rfl hb ?_
      exact look2 (ufam p) hm
   case o2=>
    rw[hG];rcases hk with rfl | rfl | rfl<;>rfl
   case o3=>
    rcases mem_append.1 hk with hk | hk
    ·refine mem_append_left _ ?_;simp only[mem_cons,not_mem_nil,or_false] at hk ⊢;rcases hk with rfl | rfl | rfl<;>simp
    ·rcases mem_append.1 hk with hk | hk
     ·exact mem_append_right _ (hnN.inn k (mem_append_left _ hk))
     ·rcases mem_cons.1 hk with rfl | hk
      ·exact mem_append_right _ (in_new (k:=0) (by decide))
      ·exact mem_append_right _ (hnQ.inn k (mem_append_right _ hk))
   case o4=>
    rw[<- names_mv,ge1,ge2,show G NK1=950 by rw[hG];rfl,show G NK2=FK2 by rw[hG];rfl];refine ndl (lits:=[FK,950,FK2,901]) (perm_iff_count.2 fun a=>?_) rfl rfl;simp only[namesT,count_append,map_cons,map_nil,count_cons,count_nil];omega
end
section
open Go.RowKit K
open Tr
def natU (Us:List (List Int)):List (List Nat):=Us.map (List.map Int.toNat)
theorem natU_int (U:List (List Nat)):natU (intU U)=U:=by
 unfold natU;rw[map_map];conv=>rhs;rw[<- map_id U]
 refine map_congr_left fun u _=>?_;show (u.map fun n:Nat=>(n:Int)).map Int.toNat=u;rw[map_map];conv=>rhs;rw[<- map_id u]
 exact map_congr_left fun n _=>toNat_natCast n
def insE (t:TreeD) (key:List UInt8):Int:=if findE t key≠0 then findE t key else if findB t key=true then 6 else if t.Leaves.flatten.length=64 then 2 else 0
def insR (t:TreeD) (p:PairD):LU:=insF t.Leaves (natU t.Up) (leafF t.Leaves (natU t.Up) p.Key (natU t.Up).length 0) p
def insT (t:TreeD) (p:PairD):TreeD:=if insE t p.Key≠0 then ⟨[],[]⟩ else if t.Leaves=[] then ⟨[[p]],[]⟩ else ⟨(insR t p).1,intU (insR t p).2⟩
namespace Tr
theorem call_own {P:Program} {f:FuncId} {args:List PV} {h:Hp} {K:OpK} {X:Value->Hp->Prop} {es:List LE} {us:List UE} (hs:CallS P f args [] [] (.d (.ptr NK 0)) (nearT NK NK1 NK2 es us++famT es us)) (b l u:Nat) (hb:apart [b,l,u]=true) (hn:NmT es us)
  (hao:∀x∈args,pon (fun _=>False) x) (hk:K (.d (.ptr b 0)) (deltaOf [] (nearT b l u es us++famT es us)) []):CallP P f args h K X:=by
 obtain⟨F,hF⟩:∃F,F=Fl [(NK,b),(NK1,l),(NK2,u)]:=⟨_,rfl⟩;have f0:F NK=b:=by rw[hF];exact Fl_hit
 have f1:F NK1=l:=by rw[hF];rfl
 have f2:F NK2=u:=by rw[hF];rfl
 have fn:∀k∈nT,F k=k:=fun k hk=>by
  rw[hF];exact Fl_out rfl hk
 have e1:es.map (LE.mv F)=es:=mv_same fun e he=>fn _ (es_in hn e he);have e2:us.map (umv F)=us:=umv_same fun e he=>fn _ (us_in hn e he);have em:(nearT NK NK1 NK2 es us++famT es us).map (qmp F)=nearT b l u es us++famT es us:=by rw[tree_mv,f0,f1,f2,e1,e2]
 have hargs:args.map (pmp F)=args:=by
  conv=>rhs;rw[<- map_id args]
  refine map_congr_left fun x hx=>?_;have:=hao x hx;cases x with
  | d x=>exact congrArg PV.d (mp_same (p:=fun _=>False) (fun _ h=>h.elim) this)|agg m=>exact congrArg PV.agg (by
    conv=>rhs;rw[<- map_id m]
    exact map_congr_left fun x hx=>mp_same (p:=fun _=>False) (fun _ h=>h.elim) (this x hx))
  | tup m=>rfl|any=>rfl
 refine call_mp F hs (by exact List.Pairwise.nil) (by rw[nil_append];exact tIn_nd rfl hn) ((nearT NK NK1 NK2 es us++famT es us).map Prod.fst) (fun k=>by rw[nil_append,nil_append]) (map_nd_inj ?_) (fun q hq=>?_) (fun x hx=>pon_imp (fun k (hk:False)=>hk.elim) (hao x hx)) (show NK∈_ by rw[tIn_keys];simp) hargs (fun q hq=>(by cases hq)) ?_
 ·rw[keys_mv,f0,f1,f2,e1,e2];exact tIn_nd hb hn
 ·rw[nil_append,nil_append] at hq;exact (tree_on (ks:=(nearT NK NK1 NK2 es us++famT es us).map Prod.fst) (fun k hk=>by rw[tIn_keys];exact hk) q hq).2
 ·rw[em];show K (.d (.ptr (F NK) 0)) _ _;rw[f0];exact hk
theorem putL_pos {l:List PairD} (h:Asc l) (p:PairD):putL l p=l.take (posF l p.Key)++[p]++l.drop (posF l p.Key):=by
 have e:(l.filter (fun q=>decide (ltT q.Key p.Key))++l.filter (fun q=>!decide (ltT q.Key p.Key))).take (l.filter (fun q=>decide (ltT q.Key p.Key))).length=l.filter (fun q=>decide (ltT q.Key p.Key)):=take_left' rfl;rw[asc_split h] at e;unfold putL posF;rw[e]
theorem chainQ_of:∀(us:List UE) (b t:Nat),upOk b (us.map Prod.snd) t->b<=64->chainQ b us
 | [],_,_,_,_=>trivial|(k,u)::us,b,t,⟨h1,h2,h3,h4⟩,hb=>by
  have h2:∀n∈u,2<=n/\n<=4:=h2;have h3:u.sum=b:=h3;have:=two_sum h2;exact⟨h2,h3,hb,chainQ_of us u.length t h4 (by omega)⟩
theorem own_low {L:List (List PairD)} {U:List (List Nat)} {n m:Nat} (hn:n<=64) (hm:m<=8):∀k∈namesT (ownL L n) (ownU U m),k<2100:=fun k hk=>by
 rw[show namesT (ownL L n) (ownU U m)=(ownL L n).map LE.k++(ownU U m).map Prod.fst from rfl,own_keys] at hk;rcases mem_append.1 hk with hk | hk
 ·obtain⟨i,hi,rfl⟩:=mem_map.1 hk;have:=mem_range.1 hi;omega
 ·obtain⟨i,hi,rfl⟩:=mem_map.1 hk;have:=mem_range.1 hi;omega
def newI (k:Nat):Nat:=if (3000<=k/\k<4000)\/(5000<=k/\k<6000) then k+10000 else k
theorem ksHas_far2 {k:Nat} (h1:13000<=k) (h2:k<1000000) {ks:List Nat} (h:(ks.all fun x=>Nat.blt x 13000||Nat.ble 1000000 x)=true):ksHas k ks=false:=ksHas_far h1 h2 h
theorem call_rd1 {P:Program} {f:FuncId} {args args0:List PV} {h:Hp} {K:OpK} {X:Value->Hp->Prop} {res:PV} {b:HB} (k:Nat) (hs:CallS P f args0 [(FK,b)] [] res []) (hno:hon (fun _=>False) b) (ha:renPs [(FK,k)] args0 fun zs=>zs=args) (hh:h k=some b)
  (hr:∀K:PV->Prop,K res->renP [(FK,k)] res K) (hk:K res [] [(k,b)]):CallP P f args h K X:=by
 have e:[(FK,b)].map (qmp fun _=>k)=[(k,b)]:=by
  show [(k,hmp (fun _=>k) b)]=_;rw[hmp_same (p:=fun _=>False) (fun _ h=>h.elim) hno]
 refine CallP.ret [(FK,k)] args0 [(FK,b)] [] res [] [(k,b)] [] hs rfl ha (renRf_mp (F:=fun _=>k) (fun q hq=>?_) e) rfl ⟨hh,trivial⟩ (hr _ hk);rw[mem_singleton] at hq;subst hq;exact⟨rfl,hon_imp (fun k (hk:False)=>hk.elim) hno⟩
theorem own_parts {L:List (List PairD)} {a:Nat} (h:a<L.length):∃A B,ownL L L.length=A++mkL (a+1000) (L.getD a [])::B/\A.length=a/\A.map LE.val=L.take a/\B.map LE.val=L.drop (a+1)/\(∀e∈A++B,e.ok)/\A.length+1+B.length=L.length:=by
 have hl:=ownL_len L L.length;have ha:a<(ownL L L.length).length:=by rw[hl];exact h
 have hg:(ownL L L.length)[a]=mkL (a+1000) (L.getD a []):=by simp only[ownL,List.getElem_map,List.getElem_range]
 have hv:=ownL_val L;refine⟨(ownL L L.length).take a,(ownL L L.length).drop (a+1),?_,by rw[length_take];omega,by rw[map_take,hv],by rw[map_drop,hv],fun e he=>?_,by rw[length_take,length_drop];omega⟩
 ·rw[<- hg,<- List.drop_eq_getElem_cons,take_append_drop]
 ·have he:e∈ownL L L.length:=by
   rcases mem_append.1 he with he | he
   ·exact mem_of_mem_take he
   ·exact mem_of_mem_drop he
  unfold ownL at he;obtain⟨i,_,rfl⟩:=mem_map.1 he;show 0+(L.getD i []).length<=(L.getD i []).length;omega
end Tr
set_option maxHeartbeats 4000000 in
theorem p_Insert (t:TreeD) (h:DataOk t) (p:PairD) (hkl:p.Key.length<=140737488351232):Pure Try.prog 5 [trD t,pStr (tx p.Key),pInt .i64 p.Id] (.tup [trD (insT t p),pInt .i64 (insE t p.Key)]):=by
 have pf:=p_Find t h p.Key hkl;refine pure_sem Try.func5 (by rfl) rfl (by kernel_rfl) (by rfl) ?_;by_cases c1:findE t p.Key≠0
 ·have e1:insE t p.Key=findE t p.Key:=if_pos c1;have e2:insT t p=⟨[],[]⟩:=if_pos (by rw[e1];exact c1);rw[e1,e2];refine Smc.of rfl ?_;((conv=>whnf);repeat' ((first|(with_reducible first|apply a_|apply b_|apply c_)|((with_reducible first|apply d_|apply e_|apply f_|apply g_|apply h_);first|omega|simp only[q_]<;>omega)|((with_reducible apply i_);first|omega|simp only[q_]<;>omega)|((with_reducible apply h_);first|decide|kernel_rfl)|refine s_ (by decide) ?_|refine t_ (by decide) ?_|refine r_ pf rfl ?_|with_reducible first|apply l_|apply m_|apply n_|apply o_|refine p_ (fun _=>?_) (fun _=>?_))<;>conv=>whnf));all_goals first|exact Ret.le ⟨⟨.inr ⟨⟨1,rfl⟩,.inl rfl⟩,.inr ⟨⟨1,rfl⟩,.inl rfl⟩,rfl⟩,.inl rfl,rfl⟩|(exfalso;omega)|skip
 have c1:findE t p.Key=0:=Decidable.of_not_not c1;have hch:chkD t=0/\p.Key.length<=40:=by
  unfold findE at c1;by_cases q:chkD t≠0
  ·rw[if_pos q] at c1;exact absurd c1 q
  ·rw[if_neg q] at c1;refine⟨Decidable.of_not_not q,?_⟩;by_cases q2:40<p.Key.length
   ·rw[if_pos q2] at c1;cases c1
   ·omega
 have hE:insE t p.Key=if findB t p.Key=true then 6 else if t.Leaves.flatten.length=64 then 2 else 0:=by unfold insE;rw[if_neg (not_not_intro c1)]
 by_cases c2:findB t p.Key=true
 ·have e1:insE t p.Key=6:=by rw[hE,if_pos c2]
  have e2:insT t p=⟨[],[]⟩:=if_pos (by rw[e1];decide);rw[e1,e2];unfold findV at pf;rw[c1,c2] at pf;refine Smc.of rfl ?_;((conv=>whnf);repeat' ((first|(with_reducible first|apply a_|apply b_|apply c_)|((with_reducible first|apply d_|apply e_|apply f_|apply g_|apply h_);first|omega|simp only[q_]<;>omega)|((with_reducible apply i_);first|omega|simp only[q_]<;>omega)|((with_reducible apply h_);first|decide|kernel_rfl)|refine s_ (by decide) ?_|refine t_ (by decide) ?_|refine r_ pf rfl ?_|with_reducible first|apply l_|apply m_|apply n_|apply o_|refine p_ (fun _=>?_) (fun _=>?_))<;>conv=>whnf));all_goals first|exact Ret.le ⟨⟨.inr ⟨⟨1,rfl⟩,.inl rfl⟩,.inr ⟨⟨1,rfl⟩,.inl rfl⟩,rfl⟩,.inl rfl,rfl⟩|(exfalso;omega)|skip
 rw[if_neg c2] at hE;have c2:findB t p.Key=false:=Bool.eq_false_iff.2 c2;unfold findV at pf;rw[c1,c2] at pf;obtain⟨U,hU,hok⟩:=chk_ok hch.1;rcases t with ⟨L,Us⟩;have hU:Us=intU U:=hU;subst hU
 replace hok:TreeOk L U:=hok
 have hkeys:∀l∈L,∀q∈l,q.ok:=h.keys;have hnf:∀q∈L.flatten,q.Key≠p.Key:=by
  have hh:findB ⟨L,intU U⟩ p.Key=(lookP L.flatten p.Key).isSome:=by
   unfold findB;rw[c1];rfl
  rw[hh] at c2;cases hq:lookP L.flatten p.Key with
  | none=>exact look_none.1 hq|some x=>rw[hq] at c2;cases c2
 have hLl:(lvC L).length=L.length:=length_map _;have hlv:lvChk L.length L []=0:=(lvChk_ok L.length L [] asc_nil).2 ⟨hok.leaf,hok.asc,hok.keys⟩;have pcl:=p_chkleaves L hok.many hkeys h.leaves;rw[hlv,if_pos rfl] at pcl;have pf:Pure Try.prog 11 [.agg [.c (.sl 1 (lvC L)),.c (.sl 1 (upC U))],pStr (tx p.Key)] (.tup [pInt .i64 (findI ⟨L,intU U⟩ p.Key),pBool false,pInt .i64 0]):=by
  have:=pf;rw[show trD ⟨L,intU U⟩=.agg [.c (.sl 1 (lvC L)),.c (.sl 1 (upI (intU U)))] from rfl,upI_int] at this;exact this
 have hgo:argsE [trD ⟨L,intU U⟩,pStr (tx p.Key),pInt .i64 p.Id]=argsE [.agg [.c (.sl 1 (lvC L)),.c (.sl 1 (upC U))],pStr (tx p.Key),pInt .i64 p.Id]:=by
  rw[show trD ⟨L,intU U⟩=.agg [.c (.sl 1 (lvC L)),.c (.sl 1 (upI (intU U)))] from rfl,upI_int]
 rw[hgo];have hcnt:=hok.count;by_cases c3:L.flatten.length=64
 ·have e1:insE ⟨L,intU U⟩ p.Key=2:=by rw[hE];exact if_pos c3
  have e2:insT ⟨L,intU U⟩ p=⟨[],[]⟩:=if_pos (by rw[e1];decide);rw[e1,e2];refine Smc.of rfl ?_;((conv=>whnf);repeat' ((first|(with_reducible first|apply a_|apply b_|apply c_)|((with_reducible first|apply d_|apply e_|apply f_|apply g_|apply h_);first|omega|simp only[q_]<;>omega)|((with_reducible apply i_);first|omega|simp only[q_]<;>omega)|((with_reducible apply h_);first|decide|kernel_rfl)|refine s_ (by decide) ?_|refine t_ (by decide) ?_|refine r_ pf rfl ?_|refine r_ pcl rfl ?_|with_reducible first|apply l_|apply m_|apply n_|apply o_|refine p_ (fun _=>?_) (fun _=>?_))<;>conv=>whnf));all_goals first|exact Ret.le ⟨⟨.inr ⟨⟨1,rfl⟩,.inl rfl⟩,.inr ⟨⟨1,rfl⟩,.inl rfl⟩,rfl⟩,.inl rfl,rfl⟩|(exfalso;omega)|skip
 have e1:insE ⟨L,intU U⟩ p.Key=0:=by rw[hE];exact if_neg c3
 rw[e1];have hus2:∀u∈U,0<u.length/\u.length<=64:=fun u hu=>by
  obtain⟨i,hi,rfl⟩:=List.getElem_of_mem hu;have hv:=hok.okT;have hs:=hv.small (i+1) hi;have hs2:=hv.sums i hi;have e:lenAt L U (i+1)=U[i].length:=by show (U.getD i []).length=_;rw[List.getD_eq_getElem?_getD,List.getElem?_eq_getElem hi];rfl
  rw[e] at hs;refine⟨length_pos_iff.2 fun h0=>?_,hs⟩;rw[h0] at hs2;have hz:lenAt L U i=0:=hs2.symm;rcases hok.up with ⟨_,h2⟩ | h2
  ·rw[h2] at hi;exact absurd hi (not_lt_zero _)
  ·have:∀(U:List (List Nat)) (b i:Nat),upOk b U 1->i<U.length->lenB b U i≠0:=fun U=>by
    induction U with
    | nil=>intro b i _ hi;exact absurd hi (not_lt_zero _)
    | cons u U ih=>
     intro b i hu hi;cases i with
     | zero=>have:=hu.1;show b≠0;omega
     | succ i=>rw[lenB_cons];exact ih _ i hu.2.2.2 (by simpa using hi)
   exact this U L.length i h2 hi (by rw[<- lenB_at];exact hz)
 have so:=s_own L U hok.many (fun l hl=>(hok.okT.leaf l hl)) hok.deep hus2;refine Smc.seq rfl ?_;((conv=>whnf);repeat' ((first|(with_reducible first|apply a_|apply b_|apply c_)|((with_reducible first|apply d_|apply e_|apply f_|apply g_|apply h_);first|omega|simp only[q_]<;>omega)|((with_reducible apply i_);first|omega|simp only[q_]<;>omega)|((with_reducible apply h_);first|decide|kernel_rfl)|refine s_ (by decide) ?_|refine t_ (by decide) ?_|with_reducible first|apply l_|apply m_|apply n_|apply o_|refine p_ (fun _=>?_) (fun _=>?_))<;>conv=>whnf));refine Smc.seq rfl ?_;((conv=>whnf);repeat' ((first|(with_reducible first|apply a_|apply b_|apply c_)|((with_reducible first|apply d_|apply e_|apply f_|apply g_|apply h_);first|omega|simp only[q_]<;>omega)|((with_reducible apply i_);first|omega|simp only[q_]<;>omega)|((with_reducible apply h_);first|decide|kernel_rfl)|refine s_ (by decide) ?_|refine t_ (by decide) ?_|refine r_ pf rfl ?_|with_reducible first|apply l_|apply m_|apply n_|apply o_|refine p_ (fun _=>?_) (fun _=>?_))<;>conv=>whnf));refine Smc.seq rfl ?_;((conv=>whnf);repeat' ((first|(with_reducible first|apply a_|apply b_|apply c_)|((with_reducible first|apply d_|apply e_|apply f_|apply g_|apply h_);first|omega|simp only[q_]<;>omega)|((with_reducible apply i_);first|omega|simp only[q_]<;>omega)|((with_reducible apply h_);first|decide|kernel_rfl)|refine s_ (by decide) ?_|refine t_ (by decide) ?_|with_reducible first|apply l_|apply m_|apply n_|apply o_|refine p_ (fun _=>?_) (fun _=>?_))<;>conv=>whnf));all_goals first|(exfalso;omega)|skip
 refine Smc.seq rfl ?_;((conv=>whnf);repeat' ((first|(with_reducible first|apply a_|apply b_|apply c_)|((with_reducible first|apply d_|apply e_|apply f_|apply g_|apply h_);first|omega|simp only[q_]<;>omega)|((with_reducible apply i_);first|omega|simp only[q_]<;>omega)|((with_reducible apply h_);first|decide|kernel_rfl)|refine s_ (by decide) ?_|refine t_ (by decide) ?_|refine r_ pcl rfl ?_|with_reducible first|apply l_|apply m_|apply n_|apply o_|refine p_ (fun _=>?_) (fun _=>?_))<;>conv=>whnf));all_goals first|(exfalso;omega)|skip
 refine Smc.seq rfl ?_;((conv=>whnf);repeat' ((first|(with_reducible first|apply a_|apply b_|apply c_)|((with_reducible first|apply d_|apply e_|apply f_|apply g_|apply h_);first|omega|simp only[q_]<;>omega)|((with_reducible apply i_);first|omega|simp only[q_]<;>omega)|((with_reducible apply h_);first|decide|kernel_rfl)|refine s_ (by decide) ?_|refine t_ (by decide) ?_|with_reducible first|apply l_|apply m_|apply n_|apply o_|refine p_ (fun _=>?_) (fun _=>?_))<;>conv=>whnf));obtain⟨us,hus⟩:∃us,us=ownU U U.length:=⟨_,rfl⟩;have husv:us.map Prod.snd=U:=by rw[hus];exact ownU_val U
 have husl:us.length=U.length:=by rw[hus];exact ownU_len _ _
 have hno:=own_nm L U hok.many hok.deep;rw[<- hus] at so hno;refine call_own so 43 150 151 rfl hno (fun x hx=>?_) ?_
 ·rw[mem_singleton] at hx;subst hx;intro y hy;simp only[mem_cons,not_mem_nil,or_false] at hy;rcases hy with rfl | rfl<;>trivial
 obtain⟨δ,hδ⟩:∃δ,δ=deltaOf [] (nearT 43 150 151 (ownL L L.length) us++famT (ownL L L.length) us):=⟨_,rfl⟩;rw[<- hδ];have hδn:((nearT 43 150 151 (ownL L L.length) us++famT (ownL L L.length) us).map Prod.fst).Nodup:=tIn_nd rfl hno;have hδo:∀(h:Hp) q,q∈nearT 43 150 151 (ownL L L.length) us++famT (ownL L L.length) us->Dl.app h δ q.1=some q.2:=fun h q hq=>by rw[hδ];exact delta_out hδn hq
 have hδe:∀(h:Hp) k,k<43->Dl.app h δ k=h k:=fun h k hk=>by
  rw[hδ];refine delta_else hδn (by simp) fun hm=>?_;rw[tIn_keys] at hm;rcases mem_append.1 hm with hm | hm
  ·simp only[mem_cons,not_mem_nil,or_false] at hm;omega
  ·have:=nT_big k (hno.inn k hm);omega
 refine newP_of (fun q hq=>?_) ?_
 ·right;rw[hδ] at hq;unfold deltaOf at hq;rw[map_nil,nil_append] at hq;obtain⟨x,hx,rfl⟩:=mem_map.1 hq;have hm:x.1∈[43,150,151]++namesT (ownL L L.length) us:=by rw[<- tIn_keys];exact mem_map.2 ⟨x,hx,rfl⟩
  show ksHas x.1 _=false;rcases mem_append.1 hm with hm | hm
  ·simp only[mem_cons,not_mem_nil,or_false] at hm;rcases hm with e | e | e<;>(rw[e];rfl)
  ·have hb:=nT_big _ (hno.inn _ hm);have:∀ks:List Nat,(ks.all fun k=>Nat.blt k 1000)=true->ksHas x.1 ks=false:=fun ks=>by
    induction ks with
    | nil=>intro _;rfl
    | cons k ks ih=>
     intro hk;rw[all_cons,Bool.and_eq_true] at hk;have:=le_of_ble_eq_true hk.1;unfold ksHas;rw[nbeq (show k≠x.1 by omega)];exact ih hk.2
   exact this _ rfl
 conv=>whnf
 refine addKs_of (fun ks'=>?_);((conv=>whnf);repeat' ((first|(with_reducible first|apply a_|apply b_|apply c_)|((with_reducible first|apply d_|apply e_|apply f_|apply g_|apply h_);first|omega|simp only[q_]<;>omega)|((with_reducible apply i_);first|omega|simp only[q_]<;>omega)|((with_reducible apply h_);first|decide|kernel_rfl)|refine s_ (by decide) ?_|refine t_ (by decide) ?_|with_reducible first|apply l_|apply m_|apply n_|apply o_|refine p_ (fun _=>?_) (fun _=>?_))<;>conv=>whnf));by_cases hL:L=[]
 ·have hU0:U=[]:=by
   rcases hok.up with ⟨_,h2⟩ | h2
   ·exact h2
   ·rw[hL] at h2;cases U with
    | nil=>rfl|cons u U=>exact absurd h2.1 (show ¬2<=0 by decide)
  have e2:insT ⟨L,intU U⟩ p=⟨[[p]],[]⟩:=by
   unfold insT;rw[if_neg (not_not_intro e1)];exact if_pos hL
  rw[e2];have hel:ownL L L.length=[]:=by rw[hL];rfl
  have hul:us=[]:=by rw[hus,hU0];rfl
  refine Smc.cut (le:=[(1,pStr (tx p.Key)),(2,pInt .i64 p.Id),(6,.d (.ptr 6 0)),(13,.d (.ptr 43 0))]) (lh:=[(6,.box 25 [.c (.v (.slice none 0 0)),.c (.v (.slice none 0 0))])]++(nearT 43 150 151 [] []++famT [] [])) (m:=[6,43,150,151])
   (wk_has (fun k=>k) (near:=[(6,.box 25 [.c (.v (.slice none 0 0)),.c (.v (.slice none 0 0))])]) (b:=43) (l:=150) (u:=151) (es:=[]) (us:=[]) ?a1 (fun k hk=>(by cases hk)) (fun k hk=>hk |> mem_cons_of_mem _) ?a3 (fun q hq=>?a4) ?a5) ?_
  case a1=>
   intro q hq;refine hδo _ q ?_;rw[hel,hul];exact hq
  case a3=>decide
  case a4=>
   rw[mem_singleton] at hq;subst hq;exact⟨by decide,_,(hδe _ 6 (by decide)).trans rfl,rfl,.inl rfl,.inl rfl,rfl⟩
  case a5=>exact⟨.inl rfl,.inl rfl,⟨rfl,rfl,rfl⟩,⟨rfl,rfl,rfl⟩,trivial⟩
  refine Smc.of rfl ?_;((conv=>whnf);repeat' ((first|(with_reducible first|apply a_|apply b_|apply c_)|((with_reducible first|apply d_|apply e_|apply f_|apply g_|apply h_);first|omega|simp only[q_]<;>omega)|((with_reducible apply i_);first|omega|simp only[q_]<;>omega)|((with_reducible apply h_);first|decide|kernel_rfl)|refine s_ (by decide) ?_|refine t_ (by decide) ?_|(refine EmpOr.emp ?_)|with_reducible first|apply l_|apply m_|apply n_|apply o_|refine p_ (fun _=>?_) (fun _=>?_))<;>conv=>whnf));refine RowsC.mk (lvC [[p]]) ⟨⟨⟨[PairD.c p],rfl,Nat.le_refl 1,rfl⟩,rfl⟩,rfl⟩ (Need.mk (Nat.le_refl 1) ?_);((conv=>whnf);repeat' ((first|(with_reducible first|apply a_|apply b_|apply c_)|((with_reducible first|apply d_|apply e_|apply f_|apply g_|apply h_);first|omega|simp only[q_]<;>omega)|((with_reducible apply i_);first|omega|simp only[q_]<;>omega)|((with_reducible apply h_);first|decide|kernel_rfl)|refine s_ (by decide) ?_|refine t_ (by decide) ?_|with_reducible first|apply l_|apply m_|apply n_|apply o_|refine p_ (fun _=>?_) (fun _=>?_))<;>conv=>whnf));refine RowsC.mk [] rfl (Need.mk (by decide) ?_);((conv=>whnf);repeat' ((first|(with_reducible first|apply a_|apply b_|apply c_)|((with_reducible first|apply d_|apply e_|apply f_|apply g_|apply h_);first|omega|simp only[q_]<;>omega)|((with_reducible apply i_);first|omega|simp only[q_]<;>omega)|((with_reducible apply h_);first|decide|kernel_rfl)|refine s_ (by decide) ?_|refine t_ (by decide) ?_|with_reducible first|apply l_|apply m_|apply n_|apply o_|refine p_ (fun _=>?_) (fun _=>?_))<;>conv=>whnf));exact Ret.mk rfl
 ·have hat:=hok.at_ hL p.Key;obtain⟨a,ha⟩:∃a,a=leafF L U p.Key U.length 0:=⟨_,rfl⟩;have e2:insT ⟨L,intU U⟩ p=⟨(insF L U a p).1,intU (insF L U a p).2⟩:=by
   unfold insT insR;rw[if_neg (not_not_intro e1),natU_int,<- ha];exact if_neg hL
  rw[e2];rw[<- ha] at hat;have hal:=hat.lt;have hLpos:0<L.length:=by omega
  have ha64:a<64:=by have:=hok.many;omega
  obtain⟨A,B,hAB,hAl,hAv,hBv,hABok,hABl⟩:=own_parts hal;obtain⟨l,hle⟩:∃l,l=L.getD a []:=⟨_,rfl⟩;rw[<- hle] at hAB;have hlm:l∈L:=by rw[hle];exact getD_mem hal
  have hlasc:Asc l:=(pairwise_flatten.1 hok.asc).1 l hlm;have hlsz:=hok.sizes l hlm;rw[hAB] at hno hδo;have hnAB:NmT (A++B) us:=nm_sub hno ((List.Sublist.refl A).append (sublist_cons_self _ _)) (List.Sublist.refl _);have haT:a+1000∈nT:=in_leaf (by have:=hok.many;omega);obtain⟨F,hF⟩:∃F,F=Fl [(800,a+1000)]:=⟨_,rfl⟩;have FN:∀k,k≠800->F k=k:=fun k hk=>by rw[hF,Fl_skip hk];rfl
  have F8:F 800=a+1000:=by rw[hF];exact Fl_hit
  have fA:A.map (LE.mv F)=A:=mv_same fun e he=>FN _ (by have:=nT_big _ (es_in hnAB e (mem_append_left _ he));omega);have fB:B.map (LE.mv F)=B:=mv_same fun e he=>FN _ (by have:=nT_big _ (es_in hnAB e (mem_append_right _ he));omega);have fu:us.map (umv F)=us:=umv_same fun q hq=>FN _ (by have:=nT_big _ (us_in hnAB q hq);omega);have fe:(A++mkL 800 l::B).map (LE.mv F)=A++mkL (a+1000) l::B:=by
   rw[map_append,map_cons,fA,fB];show A++(⟨F 800,0,l.length,l⟩:LE)::B=_;rw[F8];rfl
  refine Smc.cut (le:=[(1,pStr (tx p.Key)),(2,pInt .i64 p.Id),(6,.d (.ptr 6 0)),(13,.d (.ptr 43 0))])
   (lh:=[(6,.box 25 [.c (.v (.slice none 0 0)),.c (.v (.slice none 0 0))]),(43,.box 43 [.arr 150 44 1 0 L.length,.arr 151 61 1 0 us.length]),(150,.darr 44 1 ((A++mkL 800 l::B).map LE.row)),(151,.darr 61 1 (us.map urow)),(800,leafH l)]++famT (A++B) us)
   (m:=[6,43,150,151,800]++nT)
   (wk_sub (wk_has F (near:=[(6,.box 25 [.c (.v (.slice none 0 0)),.c (.v (.slice none 0 0))])]) (b:=43) (l:=150) (u:=151) (es:=A++mkL 800 l::B) (us:=us) ?b1 (fun k hk=>(by cases hk)) (fun k hk=>?b2) ?b3 (fun q hq=>?b4) ?b5) (fun q hq=>?b6)) ?_
  case b1=>
   rw[fe,fu,FN 43 (by decide),FN 150 (by decide),FN 151 (by decide)];intro q hq;exact hδo _ q hq
  case b2=>
   rcases mem_append.1 hk with hk | hk
   ·refine mem_append_left _ ?_;simp only[mem_cons,not_mem_nil,or_false] at hk ⊢;rcases hk with h | h | h
    ·exact .inr (.inl h)
    ·exact .inr (.inr (.inl h))
    ·exact .inr (.inr (.inr (.inl h)))
   ·have:k=800\/k∈namesT (A++B) us:=by
     simp only[namesT,mem_append,map_append,map_cons,mem_cons,mkL_k] at hk ⊢;rcases hk with (h | h | h) | h
     ·exact .inr (.inl (.inl h))
     ·exact .inl h
     ·exact .inr (.inl (.inr h))
     ·exact .inr (.inr h)
    rcases this with rfl | h
    ·exact mem_append_left _ (show 800∈[6,43,150,151,800] by decide)
    ·exact mem_append_right _ (hnAB.inn k h)
  case b3=>
   rw[<- names_mv,fe,fu,FN 43 (by decide),FN 150 (by decide),FN 151 (by decide)];show ([F 6]++([43,150,151]++_)).Nodup;rw[FN 6 (by decide)];exact nd_perm (lits:=[6,43,150,151]) (names:=namesT (A++mkL (a+1000) l::B) us) (List.Perm.refl _) rfl rfl hno.nd hno.inn
  case b4=>
   rw[mem_singleton] at hq;subst hq;refine⟨mem_append_left _ (show 6∈[6,43,150,151,800] by decide),.box 25 [.c (.v (.slice none 0 0)),.c (.v (.slice none 0 0))],?_,?_⟩
   ·show Dl.app _ δ (F 6)=_;rw[FN 6 (by decide)];exact (hδe _ 6 (by decide)).trans rfl
   ·exact⟨rfl,.inl rfl,.inl rfl,rfl⟩
  case b5=>
   have m:∀k∈[6,43,150,151,800]++nT,fnL (mR F ([6,43,150,151,800]++nT)) k=some (F k):=fun k hk=>mR_in hk;exact⟨.inl rfl,.inl rfl,⟨rfl,by rw[m 6 (by simp),FN 6 (by decide)];rfl,rfl⟩,⟨rfl,by rw[m 43 (by simp),FN 43 (by decide)],rfl⟩,trivial⟩
  case b6=>
   rcases mem_append.1 hq with hq | hq
   ·simp only[mem_cons,not_mem_nil,or_false] at hq;rcases hq with h | h | h | h | h
    ·exact mem_append_left _ (by rw[h];simp)
    ·refine mem_append_right _ (mem_append_left _ ?_);rw[h,show L.length=(A++mkL 800 l::B).length by rw[length_append,length_cons];omega];exact mem_cons_self
    ·exact mem_append_right _ (mem_append_left _ (by rw[h];simp))
    ·exact mem_append_right _ (mem_append_left _ (by rw[h];simp))
    ·refine mem_append_right _ (mem_append_right _ (mem_append_left _ ?_));rw[h,map_append];exact mem_append_right _ mem_cons_self
   ·refine mem_append_right _ (mem_append_right _ ?_);rcases mem_append.1 hq with hq | hq
    ·refine mem_append_left _ ?_;rw[map_append] at hq ⊢;rcases mem_append.1 hq with hq | hq
     ·exact mem_append_left _ hq
     ·exact mem_append_right _ (mem_cons_of_mem _ hq)
    ·exact mem_append_right _ hq
  refine Smc.seq rfl ?_;((conv=>whnf);repeat' ((first|(with_reducible first|apply a_|apply b_|apply c_)|((with_reducible first|apply d_|apply e_|apply f_|apply g_|apply h_);first|omega|simp only[q_]<;>omega)|((with_reducible apply i_);first|omega|simp only[q_]<;>omega)|((with_reducible apply h_);first|decide|kernel_rfl)|refine s_ (by decide) ?_|refine t_ (by decide) ?_|with_reducible first|apply l_|apply m_|apply n_|apply o_|refine p_ (fun _=>?_) (fun _=>?_))<;>conv=>whnf));refine Smc.seq rfl ?_;((conv=>whnf);repeat' ((first|(with_reducible first|apply a_|apply b_|apply c_)|((with_reducible first|apply d_|apply e_|apply f_|apply g_|apply h_);first|omega|simp only[q_]<;>omega)|((with_reducible apply i_);first|omega|simp only[q_]<;>omega)|((with_reducible apply h_);first|decide|kernel_rfl)|refine s_ (by decide) ?_|refine t_ (by decide) ?_|with_reducible first|apply l_|apply m_|apply n_|apply o_|refine p_ (fun _=>?_) (fun _=>?_))<;>conv=>whnf));all_goals first|(exfalso;omega)|skip
  have hLval:(A++mkL (a+1000) l::B).map LE.val=L:=by rw[<- hAB];exact ownL_val L
  have hokE:∀e∈A++mkL (a+1000) l::B,e.ok:=fun e he=>by
   simp only[mem_append,mem_cons] at he;rcases he with h | rfl | h
   ·exact hABok e (mem_append_left _ h)
   ·exact (show 0+l.length<=l.length by omega)
   ·exact hABok e (mem_append_right _ h)
  have sl:=s_leafO (us:=us) hno hokE (by rw[hLval,husv];exact hok.okT) (by rw[hLval,husv];exact (hok.top hL).1) p.Key (fun e he q hq=>hkeys e.val (by rw[<- hLval];exact mem_map.2 ⟨e,he,rfl⟩) q hq);rw[hLval,husv,<- ha] at sl;have hR:=nm_fam hnAB;have look:∀q∈famT (A++B) us,hpL ([(6,.box 25 [.c (.v (.slice none 0 0)),.c (.v (.slice none 0 0))]),(43,.box 43 [.arr 150 44 1 0 L.length,.arr 151 61 1 0 us.length]),(150,.darr 44 1 ((A++mkL 800 l::B).map LE.row)),(151,.darr 61 1 (us.map urow)),(800,leafH l)]++famT (A++B) us) q.1=some q.2:=fun q hq=>hR.past rfl hq;obtain⟨F2,hF2⟩:∃F2,F2=Fl [(FK,43),(FK1,150),(FK2,151),(a+1000,800)]:=⟨_,rfl⟩;have haN:a+1000∉namesT (A++B) us:=by
   have hp:(namesT (A++mkL (a+1000) l::B) us).Perm ((a+1000)::namesT (A++B) us):=perm_iff_count.2 fun x=>by
    simp only[namesT,count_append,map_append,map_cons,count_cons,mkL_k];omega
   exact (nodup_cons.1 (hp.nodup_iff.1 hno.nd)).1
  have F20:F2 FK=43:=by rw[hF2];rfl
  have F21:F2 FK1=150:=by rw[hF2];rfl
  have F22:F2 FK2=151:=by rw[hF2];rfl
  have F2a:F2 (a+1000)=800:=by rw[hF2,Fl_skip (by show _≠1000000;omega),Fl_skip (by show _≠1000001;omega),Fl_skip (by show _≠1000002;omega)];exact Fl_hit
  have F2N:∀k∈namesT (A++B) us,F2 k=k:=fun k hk=>by
   have hb:=nT_big k (hnAB.inn k hk);rw[hF2,Fl_skip (by show _≠1000000;omega),Fl_skip (by show _≠1000001;omega),Fl_skip (by show _≠1000002;omega),Fl_skip (fun e=>haN (by rw[<- e];exact hk))];rfl
  have f2A:A.map (LE.mv F2)=A:=mv_same fun e he=>F2N _ (mem_append_left _ (mem_map.2 ⟨e,mem_append_left _ he,rfl⟩));have f2B:B.map (LE.mv F2)=B:=mv_same fun e he=>F2N _ (mem_append_left _ (mem_map.2 ⟨e,mem_append_right _ he,rfl⟩));have f2u:us.map (umv F2)=us:=umv_same fun q hq=>F2N _ (mem_append_right _ (mem_map.2 ⟨q,hq,rfl⟩));have f2e:(A++mkL (a+1000) l::B).map (LE.mv F2)=A++mkL 800 l::B:=by
   rw[map_append,map_cons,f2A,f2B];show A++(⟨F2 (a+1000),0,l.length,l⟩:LE)::B=_;rw[F2a];rfl
  have famA:∀e∈A++B,e.fam∈famT (A++B) us:=fun e he=>mem_append_left _ (mem_map.2 ⟨e,he,rfl⟩);have famU:∀q∈us,ufam q∈famT (A++B) us:=fun q hq=>mem_append_right _ (mem_map.2 ⟨q,hq,rfl⟩);refine Smc.seq rfl ?_;((conv=>whnf);repeat' ((first|(with_reducible first|apply a_|apply b_|apply c_)|((with_reducible first|apply d_|apply e_|apply f_|apply g_|apply h_);first|omega|simp only[q_]<;>omega)|((with_reducible apply i_);first|omega|simp only[q_]<;>omega)|((with_reducible apply h_);first|decide|kernel_rfl)|refine s_ (by decide) ?_|refine t_ (by decide) ?_|with_reducible first|apply l_|apply m_|apply n_|apply o_|refine p_ (fun _=>?_) (fun _=>?_))<;>conv=>whnf));refine call_ro sl F2 hno (map_nd_inj ?c1) (fun x hx=>?c2) trivial ?c3 ?c4 (fun rf=>?_)
  case c1=>
   rw[map_append,<- names_mv,f2e,f2u];show ([F2 FK,F2 FK1,F2 FK2]++_).Nodup;rw[F20,F21,F22];refine nd_perm (lits:=[43,150,151,800]) (names:=namesT (A++B) us) (perm_iff_count.2 fun x=>?_) rfl rfl hnAB.nd hnAB.inn;simp only[namesT,count_append,map_append,map_cons,count_cons,count_nil,mkL_k];omega
  case c2=>
   simp only[mem_cons,not_mem_nil,or_false] at hx;rcases hx with rfl | rfl
   ·rfl
   ·trivial
  case c3=>
   show [PV.d (.ptr (F2 FK) 0),_]=_;rw[F20];rfl
  case c4=>
   rw[F20,F21,F22,f2e,f2u];refine has_of ?_ rfl rfl (fun e he=>?_) (fun q hq=>?_)
   ·rw[show (A++mkL 800 l::B).length=L.length by rw[length_append,length_cons];omega];rfl
   ·simp only[mem_append,mem_cons] at he;rcases he with h | rfl | h
    ·have hb:=(hR.keys e.fam (famA e (mem_append_left _ h))).1;repeat refine app_fam rfl hb ?_
     exact look e.fam (famA e (mem_append_left _ h))
    ·rfl
    ·have hb:=(hR.keys e.fam (famA e (mem_append_right _ h))).1;repeat refine app_fam rfl hb ?_
     exact look e.fam (famA e (mem_append_right _ h))
   ·have hb:=(hR.keys (ufam q) (famU q hq)).1;repeat refine app_fam rfl hb ?_
    exact look (ufam q) (famU q hq)
  ((conv=>whnf);repeat' ((first|(with_reducible first|apply a_|apply b_|apply c_)|((with_reducible first|apply d_|apply e_|apply f_|apply g_|apply h_);first|omega|simp only[q_]<;>omega)|((with_reducible apply i_);first|omega|simp only[q_]<;>omega)|((with_reducible apply h_);first|decide|kernel_rfl)|refine s_ (by decide) ?_|refine t_ (by decide) ?_|with_reducible first|apply l_|apply m_|apply n_|apply o_|refine p_ (fun _=>?_) (fun _=>?_))<;>conv=>whnf));have r1:((A++mkL 800 l::B).map LE.row)[0+((a:Nat):Int).toNat]? = some [.arr 800 41 2 0 l.length]:=by
   rw[show 0+((a:Nat):Int).toNat=a by omega,map_append,map_cons];exact get_mid2 (by rw[length_map];exact hAl.symm)
  have ss:=s_seekO l 0 l.length (by omega) (by rw[drop_zero,take_length];exact hlasc) (by omega) p.Key;rw[drop_zero,take_length] at ss;refine Smc.seq rfl ?_;((conv=>whnf);repeat' ((first|(with_reducible first|apply a_|apply b_|apply c_)|((with_reducible first|apply d_|apply e_|apply f_|apply g_|apply h_);first|omega|simp only[q_]<;>omega)|((with_reducible apply i_);first|omega|simp only[q_]<;>omega)|((with_reducible apply h_);first|decide|kernel_rfl)|refine s_ (by decide) ?_|refine t_ (by decide) ?_|(refine Row.mk _ r1 ?_)|with_reducible first|apply l_|apply m_|apply n_|apply o_|refine p_ (fun _=>?_) (fun _=>?_))<;>conv=>whnf));refine call_rd1 800 ss (hon_leaf _ _) rfl rfl (fun K hK=>hK) ?_;((conv=>whnf);repeat' ((first|(with_reducible first|apply a_|apply b_|apply c_)|((with_reducible first|apply d_|apply e_|apply f_|apply g_|apply h_);first|omega|simp only[q_]<;>omega)|((with_reducible apply i_);first|omega|simp only[q_]<;>omega)|((with_reducible apply h_);first|decide|kernel_rfl)|refine s_ (by decide) ?_|refine t_ (by decide) ?_|with_reducible first|apply l_|apply m_|apply n_|apply o_|refine p_ (fun _=>?_) (fun _=>?_))<;>conv=>whnf));have hrl:((l.map PairD.c).map (List.map D.c)).length=l.length:=by rw[length_map,length_map]
  have hpos:posF l p.Key<=l.length:=length_filter_le _ _;have si:=s_ins_pair ((l.map PairD.c).map (List.map D.c)) (posF l p.Key) (by rw[hrl];exact hpos) (by rw[hrl];omega) (by rw[hrl];omega) (hon_cs _ _ _ _) (p.c.map D.c) (hon_cs _ _ _ [p.c]) [] Fam.nil;rw[hrl] at si;refine Smc.seq rfl ?_;((conv=>whnf);repeat' ((first|(with_reducible first|apply a_|apply b_|apply c_)|((with_reducible first|apply d_|apply e_|apply f_|apply g_|apply h_);first|omega|simp only[q_]<;>omega)|((with_reducible apply i_);first|omega|simp only[q_]<;>omega)|((with_reducible apply h_);first|decide|kernel_rfl)|refine s_ (by decide) ?_|refine t_ (by decide) ?_|(refine Row.mk _ r1 ?_)|(refine EmpOr.emp ?_)|with_reducible first|apply l_|apply m_|apply n_|apply o_|refine p_ (fun _=>?_) (fun _=>?_))<;>conv=>whnf));refine call_cs [(FK,800),(FK1,97),(NK,98)] si rfl rfl rfl rfl rfl (fun q hq=>?_) (fun x hx=>?_) (show NK∈[FK,FK1,NK] by decide) rfl (fun q hq=>?_) ?_
  ·simp only[cons_append,nil_append,mem_cons,not_mem_nil,or_false] at hq;rcases hq with rfl | rfl | rfl
   ·exact hon_cs _ _ _ _
   ·exact hon_cs _ _ _ [p.c]
   ·exact hon_put (hon_cs _ 41 2 _) (hon_cs _ _ _ [p.c])
  ·simp only[mem_cons,not_mem_nil,or_false] at hx;rcases hx with rfl | rfl | rfl
   ·show FK∈_;decide
   ·trivial
   ·show FK1∈_;decide
  ·simp only[mem_cons,not_mem_nil,or_false] at hq;rcases hq with rfl | rfl<;>rfl
  ((conv=>whnf);repeat' ((first|(with_reducible first|apply a_|apply b_|apply c_)|((with_reducible first|apply d_|apply e_|apply f_|apply g_|apply h_);first|omega|simp only[q_]<;>omega)|((with_reducible apply i_);first|omega|simp only[q_]<;>omega)|((with_reducible apply h_);first|decide|kernel_rfl)|refine s_ (by decide) ?_|refine t_ (by decide) ?_|(refine Row.mk _ r1 ?_)|with_reducible first|apply l_|apply m_|apply n_|apply o_|refine p_ (fun _=>?_) (fun _=>?_))<;>conv=>whnf));obtain⟨l',hl'⟩:∃l',l'=putL l p:=⟨_,rfl⟩;have hl'p:l'=l.take (posF l p.Key)++[p]++l.drop (posF l p.Key):=by rw[hl'];exact putL_pos hlasc p
  have hl'l:l'.length=l.length+1:=by rw[hl'p];simp;omega
  have hl'r:((l.map PairD.c).map (List.map D.c)).take (posF l p.Key)++[p.c.map D.c]++((l.map PairD.c).map (List.map D.c)).drop (posF l p.Key)=(l'.map PairD.c).map (List.map D.c):=by
   rw[hl'p];simp only[map_append,map_take,map_drop,map_cons,map_nil]
  have r6:∀Y,(((A++mkL 800 l::B).map LE.row).set (0+((a:Nat):Int).toNat) Y)[0+((a:Nat):Int).toNat]? = some Y:=fun Y=>List.getElem?_set_self (by rw[length_map,length_append,length_cons];omega);have rset:∀Y,((A++mkL 800 l::B).map LE.row).set (0+((a:Nat):Int).toNat) Y=A.map LE.row++Y::B.map LE.row:=fun Y=>by
   rw[map_append,map_cons];exact set_mid2 (by rw[length_map];omega) _
  by_cases h4:l.length+1<=4
  ·have hins:insF L U a p=(L.set a l',U):=by
    unfold insF;rw[<- hle,<- hl',if_pos (by omega)]
   rw[hins];refine Smc.of rfl ?_;((conv=>whnf);repeat' ((first|(with_reducible first|apply a_|apply b_|apply c_)|((with_reducible first|apply d_|apply e_|apply f_|apply g_|apply h_);first|omega|simp only[q_]<;>omega)|((with_reducible apply i_);first|omega|simp only[q_]<;>omega)|((with_reducible apply h_);first|decide|kernel_rfl)|refine s_ (by decide) ?_|refine t_ (by decide) ?_|(refine Row.mk _ (r6 _) ?_)|with_reducible first|apply l_|apply m_|apply n_|apply o_|refine p_ (fun _=>?_) (fun _=>?_))<;>conv=>whnf));all_goals first|(exfalso;omega)|skip
   obtain⟨e',he'⟩:∃e':LE,e'=⟨98,0,l.length+1,l'⟩:=⟨_,rfl⟩;have hrow':∀Y,Y=e'.row->((A++mkL 800 l::B).map LE.row).set (0+((a:Nat):Int).toNat) Y=(A++e'::B).map LE.row:=fun Y hY=>by
    rw[rset,hY,map_append,map_cons]
   have hval':(A++e'::B).map LE.val=L.set a l':=by
    rw[map_append,map_cons,hAv,hBv,set_eq_take_append_cons_drop,if_pos hal]
    congr 2
    rw[he'];show (l'.drop 0).take (l.length+1)=l';rw[drop_zero,take_of_length_le (by omega)]
   refine RowsC.mk (lvC ((A++e'::B).map LE.val)) ?f1 (Need.mk ?f2 ?_)
   case f1=>
    rw[hrow' _ (by rw[he'];rfl)];refine clR_leaves fun e he=>?_;simp only[mem_append,mem_cons] at he;rcases he with h | rfl | h
    ·have hb:=(hR.keys e.fam (famA e (mem_append_left _ h))).1;refine⟨?_,hABok e (mem_append_left _ h)⟩;repeat refine app_fam rfl hb ?_
     exact look e.fam (famA e (mem_append_left _ h))
    ·rw[he'];refine⟨(leaf_eq hl'r:_),?_⟩;show 0+(l.length+1)<=l'.length;omega
    ·have hb:=(hR.keys e.fam (famA e (mem_append_right _ h))).1;refine⟨?_,hABok e (mem_append_right _ h)⟩;repeat refine app_fam rfl hb ?_
     exact look e.fam (famA e (mem_append_right _ h))
   case f2=>
    unfold lvC;rw[length_map,length_map,length_append,length_cons];omega
   ((conv=>whnf);repeat' ((first|(with_reducible first|apply a_|apply b_|apply c_)|((with_reducible first|apply d_|apply e_|apply f_|apply g_|apply h_);first|omega|simp only[q_]<;>omega)|((with_reducible apply i_);first|omega|simp only[q_]<;>omega)|((with_reducible apply h_);first|decide|kernel_rfl)|refine s_ (by decide) ?_|refine t_ (by decide) ?_|with_reducible first|apply l_|apply m_|apply n_|apply o_|refine p_ (fun _=>?_) (fun _=>?_))<;>conv=>whnf));refine RowsC.mk (upC (us.map Prod.snd)) (clR_levels fun q hq=>?f3) (Need.mk ?f4 ?_)
   case f3=>
    have hb:=(hR.keys (ufam q) (famU q hq)).1;repeat refine app_fam rfl hb ?_
    exact look (ufam q) (famU q hq)
   case f4=>
    unfold upC;rw[length_map,length_map];omega
   ((conv=>whnf);repeat' ((first|(with_reducible first|apply a_|apply b_|apply c_)|((with_reducible first|apply d_|apply e_|apply f_|apply g_|apply h_);first|omega|simp only[q_]<;>omega)|((with_reducible apply i_);first|omega|simp only[q_]<;>omega)|((with_reducible apply h_);first|decide|kernel_rfl)|refine s_ (by decide) ?_|refine t_ (by decide) ?_|with_reducible first|apply l_|apply m_|apply n_|apply o_|refine p_ (fun _=>?_) (fun _=>?_))<;>conv=>whnf));refine Ret.mk ?_;rw[hval',husv,drop_zero,drop_zero,take_of_length_le (by unfold lvC;rw[length_map,length_set];exact Nat.le_refl _),take_of_length_le (by unfold upC;rw[length_map];omega)];show _=PV.tup [.agg [.c (.sl 1 (lvC (L.set a l'))),.c (.sl 1 (upI (intU U)))],pInt .i64 0];rw[upI_int];rfl
  ·have hins:insF L U a p=(L.take a++[l'.take 2,l'.drop 2]++L.drop (a+1),riseF U a):=by
    unfold insF;rw[<- hle,<- hl',if_neg (by omega)]
   rw[hins];refine Smc.seq rfl ?_;((conv=>whnf);repeat' ((first|(with_reducible first|apply a_|apply b_|apply c_)|((with_reducible first|apply d_|apply e_|apply f_|apply g_|apply h_);first|omega|simp only[q_]<;>omega)|((with_reducible apply i_);first|omega|simp only[q_]<;>omega)|((with_reducible apply h_);first|decide|kernel_rfl)|refine s_ (by decide) ?_|refine t_ (by decide) ?_|(refine Row.mk _ (r6 _) ?_)|with_reducible first|apply l_|apply m_|apply n_|apply o_|refine p_ (fun _=>?_) (fun _=>?_))<;>conv=>whnf));all_goals first|(exfalso;omega)|skip
   have hlow:∀k∈namesT (A++mkL (a+1000) l::B) us,k<2100:=fun k hk=>own_low (L:=L) (U:=U) hok.many hok.deep k (by rw[hAB,<- hus];exact hk);have hn':NmT (A++mkL (a+1000) l'::B) us:=by
    have e:namesT (A++mkL (a+1000) l'::B) us=namesT (A++mkL (a+1000) l::B) us:=by simp[namesT,mkL_k]
    exact⟨by show (namesT (A++mkL (a+1000) l'::B) us).Nodup;rw[e];exact hno.nd,fun k hk=>hno.inn k (by
     rw[show (A++mkL (a+1000) l::B).map LE.k++us.map Prod.fst=namesT (A++mkL (a+1000) l::B) us from rfl,<- e];exact hk)⟩
   have hlow':∀k∈namesT (A++mkL (a+1000) l'::B) us,k<2100:=fun k hk=>hlow k (by
    have e:namesT (A++mkL (a+1000) l'::B) us=namesT (A++mkL (a+1000) l::B) us:=by simp[namesT,mkL_k]
    rw[<- e];exact hk)
   have hsp:=s_split0 A B (a+1000) l' us hn' hABok (fun i hi hm=>by have:=hlow' _ hm;omega) ⟨fun hm=>by have:=hlow' _ hm;omega,fun hm=>by have:=hlow' _ hm;omega⟩ (by omega) (by have:=hok.deep;omega) (by have:=hok.many;omega) (chainQ_of us _ 1 (by rw[husv,hABl];exact (hok.top hL).2) (by have:=hok.many;omega));obtain⟨es3,hes3⟩:∃es3,es3=A++mkL 5000 (l'.take 2)::mkL 5001 (l'.drop 2)::B:=⟨_,rfl⟩;obtain⟨us3,hus3⟩:∃us3,us3=riseQ us A.length 0:=⟨_,rfl⟩;rw[<- hes3,<- hus3,hAl] at hsp;have hus3v:us3.map Prod.snd=riseF U a:=by rw[hus3,riseQ_snd,husv,hAl]
   have hes3v:es3.map LE.val=L.take a++[l'.take 2,l'.drop 2]++L.drop (a+1):=by
    rw[hes3,map_append,map_cons,map_cons,hAv,hBv,mkL_val,mkL_val];simp
   have lowAB:∀k∈namesT (A++B) us,k<2100:=fun k hk=>hlow k (by
    simp only[namesT,mem_append,map_append,map_cons,mem_cons] at hk ⊢;rcases hk with (h | h) | h
    ·exact .inl (.inl h)
    ·exact .inl (.inr (.inr h))
    ·exact .inr h)
   have husnd:(us.map Prod.fst).Nodup:=(nodup_append.1 hnAB.nd).2.1;have huslow:∀k∈us.map Prod.fst,k<2100:=fun k hk=>lowAB k (mem_append_right _ hk);obtain⟨x1,x2⟩:=riseQ_nd us A.length 0 husnd fun j h1 h2 hm=>by have:=huslow _ hm;omega
   rw[<- hus3] at x1 x2;have hnames3:∀k∈namesT es3 us3,k∈namesT (A++B) us\/k=5000\/k=5001\/∃j,j<=11/\k=j+3000:=fun k hk=>by
    rcases mem_append.1 hk with hk | hk
    ·rw[hes3] at hk;simp only[mem_append,map_append,map_cons,mem_cons,mkL_k] at hk;rcases hk with h | h | h | h
     ·exact .inl (mem_append_left _ (by rw[map_append];exact mem_append_left _ h))
     ·exact .inr (.inl h)
     ·exact .inr (.inr (.inl h))
     ·exact .inl (mem_append_left _ (by rw[map_append];exact mem_append_right _ h))
    ·rcases x2 k hk with h | ⟨j,j1,j2,e⟩
     ·exact .inl (mem_append_right _ h)
     ·exact .inr (.inr (.inr ⟨j,by have:=hok.deep;omega,e⟩))
   have hn3:NmT es3 us3:=by
    refine⟨?_,fun k hk=>?_⟩
    ·have he3:(es3.map LE.k).Nodup:=by
      have hp:(es3.map LE.k).Perm ([5000,5001]++(A++B).map LE.k):=perm_iff_count.2 fun x=>by
       rw[hes3];simp only[count_append,map_append,map_cons,count_cons,count_nil,mkL_k];omega
      refine hp.nodup_iff.2 (nodup_append.2 ⟨by decide,(nodup_append.1 hnAB.nd).1,fun x hx y hy e=>?_⟩);subst e;have:=lowAB x (mem_append_left _ hy);simp only[mem_cons,not_mem_nil,or_false] at hx;omega
     refine nodup_append.2 ⟨he3,x1,fun x hx y hy e=>?_⟩;subst e;have hx3:x∈(A++B).map LE.k\/x=5000\/x=5001:=by
      rw[hes3] at hx;simp only[mem_append,map_append,map_cons,mem_cons,mkL_k] at hx ⊢;rcases hx with h | h | h | h
      ·exact .inl (.inl h)
      ·exact .inr (.inl h)
      ·exact .inr (.inr h)
      ·exact .inl (.inr h)
     rcases x2 x hy with h | ⟨j,j1,j2,e⟩
     ·rcases hx3 with h' | h' | h'
      ·exact (nodup_append.1 hnAB.nd).2.2 x h' x h rfl
      ·have:=huslow x h;omega
      ·have:=huslow x h;omega
     ·rcases hx3 with h' | h' | h'
      ·have:=lowAB x (mem_append_left _ h');omega
      ·have:=hok.deep;omega
      ·have:=hok.deep;omega
    ·rcases hnames3 k hk with h | rfl | rfl | ⟨j,j2,rfl⟩
     ·exact hnAB.inn k h
     ·exact (by decide:5000∈nT)
     ·exact (by decide:5001∈nT)
     ·exact in_new (by omega)
   obtain⟨G,hG⟩:∃G:Nat->Nat,G=fun k=>if k=FK then 43 else if k=FK1 then 150 else if k=FK2 then 151 else if k=NK1 then 160 else if k=NK2 then 161 else if k=a+1000 then 98 else newI k:=⟨_,rfl⟩
   have G0:G FK=43:=by rw[hG];rfl
   have G1:G FK1=150:=by rw[hG];rfl
   have G2:G FK2=151:=by rw[hG];rfl
   have GN1:G NK1=160:=by rw[hG];rfl
   have GN2:G NK2=161:=by rw[hG];rfl
   have Gn:∀k,k<7000->k≠a+1000->G k=newI k:=fun k hk hne=>by
    rw[hG];dsimp only;rw[if_neg (by show k≠1000000;omega),if_neg (by show k≠1000001;omega),if_neg (by show k≠1000002;omega),if_neg (by show k≠2000001;omega),if_neg (by show k≠2000002;omega),if_neg hne]
   have Ga:G (a+1000)=98:=by
    rw[hG];dsimp only;rw[if_neg (by show a+1000≠1000000;omega),if_neg (by show a+1000≠1000001;omega),if_neg (by show a+1000≠1000002;omega),if_neg (by show a+1000≠2000001;omega),if_neg (by show a+1000≠2000002;omega),if_pos rfl]
   have GAB:∀k∈namesT (A++B) us,G k=k:=fun k hk=>by
    have h1:=lowAB k hk;rw[Gn k (by omega) (fun e=>haN (by rw[<- e];exact hk))];exact if_neg (by omega)
   have gA:A.map (LE.mv G)=A:=mv_same fun e he=>GAB _ (mem_append_left _ (mem_map.2 ⟨e,mem_append_left _ he,rfl⟩));have gB:B.map (LE.mv G)=B:=mv_same fun e he=>GAB _ (mem_append_left _ (mem_map.2 ⟨e,mem_append_right _ he,rfl⟩));have gu:us.map (umv G)=us:=umv_same fun q hq=>GAB _ (mem_append_right _ (mem_map.2 ⟨q,hq,rfl⟩));have ge:(A++mkL (a+1000) l'::B).map (LE.mv G)=A++(⟨98,0,l.length+1,l'⟩:LE)::B:=by
    rw[map_append,map_cons,gA,gB];show A++(⟨G (a+1000),0,l'.length,l'⟩:LE)::B=_;rw[Ga,hl'l]
   have ok5:∀k,k∈namesT (A++mkL (a+1000) l'::B) us\/k∈namesT es3 us3->k<7000/\(k=a+1000\/(k≠a+1000/\G k=newI k)):=fun k hk=>by
    have hb:k<7000:=by
     rcases hk with hk | hk
     ·exact (nT_big k (hn'.inn k hk)).2
     ·exact (nT_big k (hn3.inn k hk)).2
    refine⟨hb,?_⟩;by_cases e:k=a+1000
    ·exact .inl e
    ·exact .inr ⟨e,Gn k hb e⟩
   refine call_tree hsp G hn' hn3 (fun x hx y hy e=>?d1) (fun x hx=>?d2) trivial ?d3 ?d4 ?_
   case d1=>
    have val:∀k∈[FK,FK1,FK2,NK1,NK2]++(namesT (A++mkL (a+1000) l'::B) us++namesT es3 us3),(k=FK/\G k=43)\/(k=FK1/\G k=150)\/(k=FK2/\G k=151)\/(k=NK1/\G k=160)\/(k=NK2/\G k=161)\/(k=a+1000/\G k=98)\/(1000<=k/\k<7000/\G k=newI k):=fun k hk=>by
     rcases mem_append.1 hk with hk | hk
     ·simp only[mem_cons,not_mem_nil,or_false] at hk;rcases hk with rfl | rfl | rfl | rfl | rfl
      ·exact .inl ⟨rfl,G0⟩
      ·exact .inr (.inl ⟨rfl,G1⟩)
      ·exact .inr (.inr (.inl ⟨rfl,G2⟩))
      ·exact .inr (.inr (.inr (.inl ⟨rfl,GN1⟩)))
      ·exact .inr (.inr (.inr (.inr (.inl ⟨rfl,GN2⟩))))
     ·have hk:=mem_append.1 hk;have h1:1000<=k:=by
       rcases hk with hk | hk
       ·exact (nT_big k (hn'.inn k hk)).1
       ·exact (nT_big k (hn3.inn k hk)).1
      obtain⟨h2,h3⟩:=ok5 k hk;rcases h3 with h3 | ⟨h3,h4⟩
      ·exact .inr (.inr (.inr (.inr (.inr (.inl ⟨h3,by rw[h3];exact Ga⟩)))))
      ·exact .inr (.inr (.inr (.inr (.inr (.inr ⟨h1,h2,h4⟩)))))
    have nI:∀k,1000<=k->1000<=newI k:=fun k hk=>by unfold newI;split<;>omega
    have nIj:∀k j,k<7000->j<7000->newI k=newI j->k=j:=fun k j h1 h2 he=>by
     unfold newI at he;split at he<;>split at he<;>omega
    rcases val x hx with ⟨p1,p2⟩ | ⟨p1,p2⟩ | ⟨p1,p2⟩ | ⟨p1,p2⟩ | ⟨p1,p2⟩ | ⟨p1,p2⟩ | ⟨p0,p1,p2⟩<;>rcases val y hy with ⟨q1,q2⟩ | ⟨q1,q2⟩ | ⟨q1,q2⟩ | ⟨q1,q2⟩ | ⟨q1,q2⟩ | ⟨q1,q2⟩ | ⟨q0,q1,q2⟩<;>rw[p2,q2] at e<;>first|(rw[p1,q1];done)|(cases e;done)|(have:=nI y q0;omega)|(have:=nI x p0;omega)|exact nIj x y p1 q1 e
   case d2=>
    simp only[mem_cons,not_mem_nil,or_false] at hx;rcases hx with rfl | rfl | rfl
    ·rfl
    ·trivial
    ·trivial
   case d3=>
    show [PV.d (.ptr (G FK) 0),_,_]=_;rw[G0];rfl
   case d4=>
    rw[G0,G1,G2,ge,gu];refine has_of ?_ ?_ rfl (fun e he=>?_) (fun q hq=>?_)
    ·rw[show (A++(⟨98,0,l.length+1,l'⟩:LE)::B).length=L.length by rw[length_append,length_cons];omega];rfl
    ·refine congrArg (fun r=>some (HB.darr 44 1 r)) ?_;rw[map_append (l₁:=A) (l₂:=(⟨98,0,l.length+1,l'⟩:LE)::B),map_cons];exact rset _
    ·simp only[mem_append,mem_cons] at he;rcases he with h | rfl | h
     ·have hb:=(hR.keys e.fam (famA e (mem_append_left _ h))).1;repeat refine app_fam rfl hb ?_
      exact look e.fam (famA e (mem_append_left _ h))
     ·exact (leaf_eq hl'r:_)
     ·have hb:=(hR.keys e.fam (famA e (mem_append_right _ h))).1;repeat refine app_fam rfl hb ?_
      exact look e.fam (famA e (mem_append_right _ h))
    ·have hb:=(hR.keys (ufam q) (famU q hq)).1;repeat refine app_fam rfl hb ?_
     exact look (ufam q) (famU q hq)
   rw[G0,G1,G2,GN1,GN2,ge,gu];obtain⟨Y,hY⟩:∃Y,Y=us3.map (umv G):=⟨_,rfl⟩;obtain⟨Z,hZ⟩:∃Z,Z=es3.map (LE.mv G):=⟨_,rfl⟩;have hZY:namesT Z Y=(namesT es3 us3).map G:=by rw[hZ,hY,names_mv]
   have hZYk:∀k∈namesT Z Y,k∈namesT (A++B) us\/(13000<=k/\k<1000000):=fun k hk=>by
    rw[hZY] at hk;obtain⟨x,hx,rfl⟩:=mem_map.1 hk;rcases hnames3 x hx with h | h | h | ⟨j,j2,h⟩
    ·rw[GAB x h];exact .inl h
    ·rw[h,Gn 5000 (by decide) (by omega)];exact .inr (by decide)
    ·rw[h,Gn 5001 (by decide) (by omega)];exact .inr (by decide)
    ·rw[h,Gn (j+3000) (by omega) (by omega)];right;unfold newI;rw[if_pos (by omega)];omega
   have hinjO:∀x∈[FK,NK1,NK2]++namesT es3 us3,∀y∈[FK,NK1,NK2]++namesT es3 us3,G x=G y->x=y:=fun x hx y hy e=>by
    have val:∀k∈[FK,NK1,NK2]++namesT es3 us3,(k=FK/\G k=43)\/(k=NK1/\G k=160)\/(k=NK2/\G k=161)\/(1000<=k/\k<7000/\G k=newI k):=fun k hk=>by
     rcases mem_append.1 hk with hk | hk
     ·simp only[mem_cons,not_mem_nil,or_false] at hk;rcases hk with rfl | rfl | rfl
      ·exact .inl ⟨rfl,G0⟩
      ·exact .inr (.inl ⟨rfl,GN1⟩)
      ·exact .inr (.inr (.inl ⟨rfl,GN2⟩))
     ·have hb:=nT_big k (hn3.inn k hk);refine .inr (.inr (.inr ⟨hb.1,hb.2,Gn k hb.2 fun e=>?_⟩));rcases hnames3 k hk with h | h | h | ⟨j,j2,h⟩
      ·exact haN (by rw[<- e];exact h)
      ·omega
      ·omega
      ·omega
    have nI:∀k,1000<=k->1000<=newI k:=fun k hk=>by unfold newI;split<;>omega
    have nIj:∀k j,k<7000->j<7000->newI k=newI j->k=j:=fun k j h1 h2 he=>by
     unfold newI at he;split at he<;>split at he<;>omega
    rcases val x hx with ⟨p1,p2⟩ | ⟨p1,p2⟩ | ⟨p1,p2⟩ | ⟨p0,p1,p2⟩<;>rcases val y hy with ⟨q1,q2⟩ | ⟨q1,q2⟩ | ⟨q1,q2⟩ | ⟨q0,q1,q2⟩<;>rw[p2,q2] at e<;>first|(rw[p1,q1];done)|(cases e;done)|(have:=nI y q0;omega)|(have:=nI x p0;omega)|exact nIj x y p1 q1 e
   have hYd:((nearT 43 160 161 Z Y++famT Z Y).map Prod.fst).Nodup:=by
    rw[tIn_keys,hZY];have h0:([FK,NK1,NK2]++namesT es3 us3).Nodup:=by
     have:=tIn_nd (b:=FK) (l:=NK1) (u:=NK2) rfl hn3
     rwa [tIn_keys] at this
    have h1:=nodup_map (F:=G) h0 hinjO;rw[map_append] at h1;have e:[FK,NK1,NK2].map G=[43,160,161]:=by
     show [G FK,G NK1,G NK2]=_;rw[G0,GN1,GN2]
    rwa [e] at h1
   rw[<- hY,<- hZ];obtain⟨δ2,hδ2⟩:∃δ2,δ2=deltaOf (nearT 43 150 151 (A++(⟨98,0,l.length+1,l'⟩:LE)::B) us++famT (A++(⟨98,0,l.length+1,l'⟩:LE)::B) us) (nearT 43 160 161 Z Y++famT Z Y):=⟨_,rfl⟩;rw[<- hδ2];have hA:∀k∈[43,150,151]++namesT (A++(⟨98,0,l.length+1,l'⟩:LE)::B) us,rfHas k (nearT 43 150 151 (A++(⟨98,0,l.length+1,l'⟩:LE)::B) us++famT (A++(⟨98,0,l.length+1,l'⟩:LE)::B) us)=true:=fun k hk=>rfHas_of (by rw[tIn_keys];exact hk);have hAn:∀k∈namesT (A++B) us,k∈namesT (A++(⟨98,0,l.length+1,l'⟩:LE)::B) us:=fun k hk=>by
    simp only[namesT,mem_append,map_append,map_cons,mem_cons] at hk ⊢;rcases hk with (h | h) | h
    ·exact .inl (.inl h)
    ·exact .inl (.inr (.inr h))
    ·exact .inr h
   refine newP_of (fun q hq=>?_) ?_
   ·rw[hδ2] at hq;unfold deltaOf at hq;rcases mem_append.1 hq with hq | hq
    ·obtain⟨x,hx,rfl⟩:=mem_map.1 hq;exact .inl (rfHas_of (mem_map.2 ⟨x,hx,rfl⟩))
    ·obtain⟨x,hx,rfl⟩:=mem_map.1 hq;have hqk:x.1∈[43,160,161]++namesT Z Y:=by rw[<- tIn_keys];exact mem_map.2 ⟨x,hx,rfl⟩
     show rfHas x.1 _=true\/ksHas x.1 _=false;rcases mem_append.1 hqk with hk | hk
     ·simp only[mem_cons,not_mem_nil,or_false] at hk;rcases hk with e | e | e
      ·rw[e];exact .inl (hA 43 (by simp))
      ·rw[e];exact .inr rfl
      ·rw[e];exact .inr rfl
     ·rcases hZYk _ hk with h | ⟨h1,h2⟩
      ·exact .inl (hA _ (mem_append_right _ (hAn _ h)))
      ·exact .inr (ksHas_far2 h1 h2 rfl)
   have hδo2:∀(h:Hp) q,q∈nearT 43 160 161 Z Y++famT Z Y->Dl.app h δ2 q.1=some q.2:=fun h q hq=>by rw[hδ2];exact delta_out hYd hq
   have hδe2:∀(h:Hp),Dl.app h δ2 6=h 6:=fun h=>by
    rw[hδ2];have nk:∀k∈namesT (A++B) us,k≠6:=fun k hk=>by have:=nT_big k (hnAB.inn k hk);omega
    refine delta_else hYd (fun hm=>?_) fun hm=>?_
    ·rw[tIn_keys] at hm;simp only[namesT,mem_append,map_append,map_cons,mem_cons,not_mem_nil,or_false] at hm;rcases hm with (h | h | h) | (h | h | h) | h
     ·cases h
     ·cases h
     ·cases h
     ·exact nk 6 (by simp only[namesT,mem_append,map_append];exact .inl (.inl h)) rfl
     ·cases h
     ·exact nk 6 (by simp only[namesT,mem_append,map_append];exact .inl (.inr h)) rfl
     ·exact nk 6 (by simp only[namesT,mem_append,map_append];exact .inr h) rfl
    ·rw[tIn_keys] at hm;rcases mem_append.1 hm with hm | hm
     ·simp at hm
     ·rcases hZYk 6 hm with h | h
      ·exact nk 6 h rfl
      ·omega
   conv=>whnf
   refine addKs_of (fun ks'=>?_);((conv=>whnf);repeat' ((first|(with_reducible first|apply a_|apply b_|apply c_)|((with_reducible first|apply d_|apply e_|apply f_|apply g_|apply h_);first|omega|simp only[q_]<;>omega)|((with_reducible apply i_);first|omega|simp only[q_]<;>omega)|((with_reducible apply h_);first|decide|kernel_rfl)|refine s_ (by decide) ?_|refine t_ (by decide) ?_|with_reducible first|apply l_|apply m_|apply n_|apply o_|refine p_ (fun _=>?_) (fun _=>?_))<;>conv=>whnf));obtain⟨H,hH⟩:∃H:Nat->Nat,H=fun k=>if k∈nT then G k else k:=⟨_,rfl⟩
   have HT:∀k∈nT,H k=G k:=fun k hk=>by rw[hH];exact if_pos hk
   have Hf:∀k,farK k=true->H k=k:=fun k hk=>by rw[hH];exact if_neg (farK_out hk)
   have hHe:es3.map (LE.mv H)=Z:=by
    rw[hZ];refine map_congr_left fun e he=>?_;show (⟨H e.k,e.lo,e.n,e.a⟩:LE)=⟨G e.k,e.lo,e.n,e.a⟩;rw[HT _ (es_in hn3 e he)]
   have hHu:us3.map (umv H)=Y:=by
    rw[hY];refine map_congr_left fun q hq=>?_;show (H q.1,q.2)=(G q.1,q.2);rw[HT _ (us_in hn3 q hq)]
   refine Smc.cut (le:=[(6,.d (.ptr 6 0)),(13,.d (.ptr 43 0))])
    (lh:=[(6,.box 25 [.c (.v (.slice none 0 0)),.c (.v (.slice none 0 0))])]++(nearT 43 160 161 es3 us3++famT es3 us3)) (m:=[6,43,160,161]++nT)
    (wk_has H (near:=[(6,.box 25 [.c (.v (.slice none 0 0)),.c (.v (.slice none 0 0))])]) (b:=43) (l:=160) (u:=161) (es:=es3) (us:=us3) ?g1 (fun k hk=>(by cases hk)) (fun k hk=>?g2) ?g3 (fun q hq=>?g4) ?g5) ?_
   case g1=>
    rw[hHe,hHu,Hf 43 rfl,Hf 160 rfl,Hf 161 rfl];intro q hq;exact hδo2 _ q hq
   case g2=>
    rcases mem_append.1 hk with hk | hk
    ·refine mem_append_left _ ?_;simp only[mem_cons,not_mem_nil,or_false] at hk ⊢;exact .inr hk
    ·exact mem_append_right _ (hn3.inn k hk)
   case g3=>
    rw[<- names_mv,hHe,hHu,Hf 43 rfl,Hf 160 rfl,Hf 161 rfl];show ([H 6]++([43,160,161]++namesT Z Y)).Nodup;rw[Hf 6 rfl];rw[tIn_keys] at hYd;refine nodup_cons.2 ⟨fun hm=>?_,hYd⟩;have hm:6∈[43,160,161]++namesT Z Y:=hm;rcases mem_append.1 hm with hm | hm
    ·simp at hm
    ·rcases hZYk 6 hm with h | h
     ·have:=nT_big 6 (hnAB.inn 6 h);omega
     ·omega
   case g4=>
    rw[mem_singleton] at hq;subst hq;refine⟨mem_append_left _ (show 6∈[6,43,160,161] by decide),.box 25 [.c (.v (.slice none 0 0)),.c (.v (.slice none 0 0))],?_,?_⟩
    ·show Dl.app _ δ2 (H 6)=_;rw[Hf 6 rfl,hδe2];rfl
    ·exact⟨rfl,.inl rfl,.inl rfl,rfl⟩
   case g5=>
    have m:∀k∈[6,43,160,161]++nT,fnL (mR H ([6,43,160,161]++nT)) k=some (H k):=fun k hk=>mR_in hk;exact⟨⟨rfl,by rw[m 6 (by simp),Hf 6 rfl],rfl⟩,⟨rfl,by rw[m 43 (by simp),Hf 43 rfl],rfl⟩,trivial⟩
   refine Smc.of rfl ?_;have hR3:=nm_fam hn3;have hok3:∀e∈es3,e.ok:=fun e he=>by
    rw[hes3] at he;simp only[mem_append,mem_cons] at he;rcases he with h | rfl | rfl | h
    ·exact hABok e (mem_append_left _ h)
    ·exact (show 0+(l'.take 2).length<=(l'.take 2).length by omega)
    ·exact (show 0+(l'.drop 2).length<=(l'.drop 2).length by omega)
    ·exact hABok e (mem_append_right _ h)
   have look3:∀q∈famT es3 us3,hpL ([(6,.box 25 [.c (.v (.slice none 0 0)),.c (.v (.slice none 0 0))])]++(nearT 43 160 161 es3 us3++famT es3 us3)) q.1=some q.2:=fun q hq=>hR3.past (a:=[(6,.box 25 [.c (.v (.slice none 0 0)),.c (.v (.slice none 0 0))])]++nearT 43 160 161 es3 us3) rfl hq;((conv=>whnf);repeat' ((first|(with_reducible first|apply a_|apply b_|apply c_)|((with_reducible first|apply d_|apply e_|apply f_|apply g_|apply h_);first|omega|simp only[q_]<;>omega)|((with_reducible apply i_);first|omega|simp only[q_]<;>omega)|((with_reducible apply h_);first|decide|kernel_rfl)|refine s_ (by decide) ?_|refine t_ (by decide) ?_|with_reducible first|apply l_|apply m_|apply n_|apply o_|refine p_ (fun _=>?_) (fun _=>?_))<;>conv=>whnf));refine RowsC.mk (lvC (es3.map LE.val)) (clR_leaves fun e he=>⟨?i1,hok3 e he⟩) (Need.mk ?i2 ?_)
   case i1=>
    have hm:e.fam∈famT es3 us3:=mem_append_left _ (mem_map.2 ⟨e,he,rfl⟩);have hb:=(hR3.keys e.fam hm).1;repeat refine app_fam rfl hb ?_
    exact look3 e.fam hm
   case i2=>
    unfold lvC;rw[length_map,length_map];omega
   ((conv=>whnf);repeat' ((first|(with_reducible first|apply a_|apply b_|apply c_)|((with_reducible first|apply d_|apply e_|apply f_|apply g_|apply h_);first|omega|simp only[q_]<;>omega)|((with_reducible apply i_);first|omega|simp only[q_]<;>omega)|((with_reducible apply h_);first|decide|kernel_rfl)|refine s_ (by decide) ?_|refine t_ (by decide) ?_|with_reducible first|apply l_|apply m_|apply n_|apply o_|refine p_ (fun _=>?_) (fun _=>?_))<;>conv=>whnf));refine RowsC.mk (upC (us3.map Prod.snd)) (clR_levels fun q hq=>?i3) (Need.mk ?i4 ?_)
   case i3=>
    have hm:ufam q∈famT es3 us3:=mem_append_right _ (mem_map.2 ⟨q,hq,rfl⟩);have hb:=(hR3.keys (ufam q) hm).1;repeat refine app_fam rfl hb ?_
    exact look3 (ufam q) hm
   case i4=>
    unfold upC;rw[length_map,length_map];omega
   ((conv=>whnf);repeat' ((first|(with_reducible first|apply a_|apply b_|apply c_)|((with_reducible first|apply d_|apply e_|apply f_|apply g_|apply h_);first|omega|simp only[q_]<;>omega)|((with_reducible apply i_);first|omega|simp only[q_]<;>omega)|((with_reducible apply h_);first|decide|kernel_rfl)|refine s_ (by decide) ?_|refine t_ (by decide) ?_|with_reducible first|apply l_|apply m_|apply n_|apply o_|refine p_ (fun _=>?_) (fun _=>?_))<;>conv=>whnf));refine Ret.mk ?_;rw[drop_zero,drop_zero,take_of_length_le (by unfold lvC;rw[length_map,length_map];exact Nat.le_refl _),take_of_length_le (by unfold upC;rw[length_map,length_map];exact Nat.le_refl _),hes3v,hus3v];show _=PV.tup [.agg [.c (.sl 1 (lvC _)),.c (.sl 1 (upI (intU (riseF U a))))],pInt .i64 0];rw[upI_int];rfl
end
section
open Go.RowKit K
open Tr
theorem p_size0 (L:List (List PairD)) (U:List (List Nat)) (a:Nat) (ha:a<L.length) (hl:L[a].length<=1000):Pure Try.prog 53 [roV L U,pInt .i64 0,pInt .i64 a] (pInt .i64 L[a].length):=by
 obtain⟨l,hl0⟩:∃l,l=L[a]:=⟨_,rfl⟩;rw[<- hl0] at hl ⊢;have hrow:(lvC L)[a]? = some [.sl 2 (l.map PairD.c)]:=by unfold lvC;rw[List.getElem?_map,List.getElem?_eq_getElem ha,hl0];rfl
 refine pure_of Try.func53 (by rfl) rfl (by kernel_rfl) (by rfl) ?_;((conv=>whnf);repeat' ((first|(with_reducible first|apply a_|apply b_|apply c_)|((with_reducible first|apply d_|apply e_|apply f_|apply g_|apply h_);first|omega|simp only[q_]<;>omega)|((with_reducible apply i_);first|omega|simp only[q_]<;>omega)|((with_reducible apply h_);first|decide|kernel_rfl)|refine s_ (by decide) ?_|refine t_ (by decide) ?_|(refine Idx.at hrow ?_)|with_reducible first|apply l_|apply m_|apply n_|apply o_|refine p_ (fun _=>?_) (fun _=>?_))<;>conv=>whnf));exact Ret.int (by rw[length_map])
theorem p_sizeU (L:List (List PairD)) (U:List (List Nat)) (j:Nat) (hj:j<U.length) (hj2:j<=1000) (a:Nat) (ha:a<U[j].length):Pure Try.prog 53 [roV L U,pInt .i64 ((j+1:Nat):Int),pInt .i64 a] (pInt .i64 U[j][a]):=by
 obtain⟨u,hu0⟩:∃u,u=U[j]:=⟨_,rfl⟩;have hrow:(upC U)[j]? = some [.sl 1 (u.map natC)]:=by unfold upC;rw[List.getElem?_map,List.getElem?_eq_getElem hj,hu0];rfl
 have ha':a<u.length:=by rw[hu0];exact ha
 have e:U[j][a]=u[a]:=by simp only[hu0]
 rw[e];refine pure_of Try.func53 (by rfl) rfl (by kernel_rfl) (by rfl) ?_;((conv=>whnf);repeat' ((first|(with_reducible first|apply a_|apply b_|apply c_)|((with_reducible first|apply d_|apply e_|apply f_|apply g_|apply h_);first|omega|simp only[q_]<;>omega)|((with_reducible apply i_);first|omega|simp only[q_]<;>omega)|((with_reducible apply h_);first|decide|kernel_rfl)|refine s_ (by decide) ?_|refine t_ (by decide) ?_|(first|refine Idx.at' hrow (by push_cast;omega) ?_|refine Idx.mapI (f:=natC) a rfl ha' ?_)|with_reducible first|apply l_|apply m_|apply n_|apply o_|refine p_ (fun _=>?_) (fun _=>?_))<;>conv=>whnf));all_goals first|exact Ret.int rfl | (exfalso;omega)
theorem s_size0 {es:List LE} {us:List UE} (hn:NmT es us) (hok:∀e∈es,e.ok) (a:Nat) {e:LE} (he:es[a]? = some e) (hl:e.val.length<=1000) :
  CallS Try.prog 53 [.d (.ptr FK 0),pInt .i64 0,pInt .i64 a] (tIn es us) [] (pInt .i64 e.val.length) []:=by
 have h1:(es.map LE.val)[a]? = some e.val:=by rw[List.getElem?_map,he];rfl
 obtain⟨hj,h2⟩:=List.getElem?_eq_some_iff.1 h1;have:=p_size0 (es.map LE.val) (us.map Prod.snd) a hj (by rw[h2];exact hl);rw[h2] at this;exact lend this (plainR_int _ _) ⟨lend_tree hn hok,.inl rfl,.inl rfl,trivial⟩
theorem s_sizeU {es:List LE} {us:List UE} (hn:NmT es us) (hok:∀e∈es,e.ok) (j:Nat) (hj2:j<=1000) (u:List Nat) (hu:(us.map Prod.snd)[j]? = some u) (a:Nat) (ha:a<u.length) :
  CallS Try.prog 53 [.d (.ptr FK 0),pInt .i64 ((j+1:Nat):Int),pInt .i64 a] (tIn es us) [] (pInt .i64 u[a]) []:=by
 obtain⟨hj,h2⟩:=List.getElem?_eq_some_iff.1 hu;subst h2;exact lend (p_sizeU (es.map LE.val) (us.map Prod.snd) j hj hj2 a ha) (plainR_int _ _) ⟨lend_tree hn hok,.inl rfl,.inl rfl,trivial⟩
end
section
open Go.RowKit K
open Tr
namespace Tr
theorem wk_lvl {es:List LE} {P Q:List UE} {k0:Nat} {v:List Nat} (hn:NmT es (P++(k0,v)::Q)) (N:Nat) (hN:N=P.length+1+Q.length) {e:Env} {le:List (Nat×PV)} (he:PLes (fnL (mR (Fl [(900,k0)]) (ksF [(900,k0)]))) (ksF [(900,k0)]) e le) :
  Wk ([FK,FK1,FK2]++namesT es (P++(k0,v)::Q)) e (hpL (tIn es (P++(k0,v)::Q))) le
   ([(FK,.box 43 [.arr FK1 44 1 0 es.length,.arr FK2 61 1 0 N]),(FK1,.darr 44 1 (es.map LE.row)),(FK2,.darr 61 1 ((P++(900,v)::Q).map urow)),(900,lvlH v)]++famT es (P++Q)) (ksF [(900,k0)]):=by
 have hnP:NmT es (P++Q):=nm_sub hn (List.Sublist.refl _) ((List.Sublist.refl P).append (sublist_cons_self _ _));refine wk_in [(900,k0)] rfl rfl rfl rfl hn (mp_fix rfl (es_in hn)) (us2:=P++(900,v)::Q) ?u2 (fun k hk=>?nm) _ (fun q hq=>?lh) he rfl
 case u2=>
  rw[map_append,map_cons,ump_fix rfl fun p hp=>us_in hn p (mem_append_left _ hp),ump_fix rfl fun p hp=>us_in hn p (mem_append_right _ (mem_cons_of_mem _ hp))];rfl
 case nm=>
  rcases mem_append.1 hk with hk | hk
  ·exact mem_append_right _ (hn.inn k (mem_append_left _ hk))
  ·rw[map_append,map_cons] at hk;rcases mem_append.1 hk with hk | hk
   ·refine mem_append_right _ (hnP.inn k (mem_append_right _ ?_));rw[map_append];exact mem_append_left _ hk
   ·rcases mem_cons.1 hk with rfl | hk
    ·exact mem_append_left _ (show 900∈[900] by decide)
    ·refine mem_append_right _ (hnP.inn k (mem_append_right _ ?_));rw[map_append];exact mem_append_right _ hk
 case lh=>
  rcases mem_append.1 hq with hq | hq
  ·simp only[mem_cons,not_mem_nil,or_false] at hq;rcases hq with h | h | h | h
   ·exact mem_append_left _ (by rw[h,show N=(P++(900,v)::Q).length by rw[hN];simp;omega];exact mem_cons_self)
   ·exact mem_append_left _ (by rw[h];simp)
   ·exact mem_append_left _ (by rw[h];simp)
   ·refine mem_append_right _ (mem_append_right _ ?_);rw[h,map_append];exact mem_append_right _ mem_cons_self
  ·rcases mem_append.1 hq with hq | hq
   ·exact mem_append_right _ (mem_append_left _ hq)
   ·refine mem_append_right _ (mem_append_right _ ?_);rw[map_append] at hq ⊢;rcases mem_append.1 hq with hq | hq
    ·exact mem_append_left _ hq
    ·exact mem_append_right _ (mem_cons_of_mem _ hq)
theorem ret_lvl {es:List LE} {P Q:List UE} {k0:Nat} {v v':List Nat} (hn:NmT es (P++(k0,v)::Q)) {x:Nat} (hx:x∈nT) (hxn:x∉namesT es (P++(k0,v)::Q)) (a b y:Nat) (hd:nd [FK,a,b,y]=true) (hf:[FK,a,b,y].all farK=true)
  {h:Hp} (hh:Has h FK a b es (P++(y,v')::Q)):RetS ([FK,FK1,FK2]++namesT es (P++(k0,v)::Q)) h (.tup []) (tOut es (P++(x,v')::Q)) (.tup []):=by
 have hnP:NmT es (P++Q):=nm_sub hn (List.Sublist.refl _) ((List.Sublist.refl P).append (sublist_cons_self _ _));have hsub:∀k∈namesT es (P++Q),k∈namesT es (P++(k0,v)::Q):=fun k hk=>by
  simp only[namesT,mem_append,map_append,map_cons,mem_cons] at hk ⊢;rcases hk with h | h | h
  ·exact .inl h
  ·exact .inr (.inl h)
  ·exact .inr (.inr (.inr h))
 obtain⟨G,hG⟩:∃G,G=Fl [(NK1,a),(NK2,b),(x,y)]:=⟨_,rfl⟩;have hxb:=nT_big x hx;have G1:G NK1=a:=by rw[hG];exact Fl_hit
 have G2:G NK2=b:=by rw[hG,Fl_skip (by decide)];exact Fl_hit
 have Gx:G x=y:=by rw[hG,Fl_skip (by show _≠2000001;omega),Fl_skip (by show _≠2000002;omega)];exact Fl_hit
 have GN:∀k,k≠NK1->k≠NK2->k≠x->G k=k:=fun k h1 h2 h3=>by
  rw[hG];refine Fl_no fun p hp=>?_;simp only[mem_cons,not_mem_nil,or_false] at hp;rcases hp with rfl | rfl | rfl
  ·exact fun e=>h1 e.symm
  ·exact fun e=>h2 e.symm
  ·exact fun e=>h3 e.symm
 have GnT:∀k∈nT,k≠x->G k=k:=fun k hk hne=>by
  have:=nT_big k hk;exact GN k (by show _≠2000001;omega) (by show _≠2000002;omega) hne
 have GF:∀k,k=FK\/k=FK1\/k=FK2->G k=k:=fun k hk=>by
  have hk:k=1000000\/k=1000001\/k=1000002:=hk;exact GN k (by show _≠2000001;omega) (by show _≠2000002;omega) (by omega)
 have GP:∀k∈namesT es (P++Q),G k=k:=fun k hk=>GnT k (hnP.inn k hk) fun e=>hxn (by rw[<- e];exact hsub k hk);have ge:es.map (LE.mv G)=es:=mv_same fun e he=>GP _ (mem_append_left _ (mem_map.2 ⟨e,he,rfl⟩));have gu:(P++(x,v')::Q).map (umv G)=P++(y,v')::Q:=by
  rw[map_append,map_cons,umv_same fun p hp=>GP _ (mem_append_right _ (mem_map.2 ⟨p,mem_append_left _ hp,rfl⟩)),umv_same fun p hp=>GP _ (mem_append_right _ (mem_map.2 ⟨p,mem_append_right _ hp,rfl⟩))];show P++(G x,v')::Q=_;rw[Gx]
 refine ret_has ([FK,FK1,FK2,NK1,NK2]++nT) G (GF _ (.inl rfl)) (us:=P++(x,v')::Q) ?o1 (fun k hk=>?o2) (fun k hk=>?o3) ?o4 rfl
 case o1=>rw[ge,gu,G1,G2];exact hh
 case o2=>
  rcases mem_append.1 hk with hk | hk
  ·simp only[mem_cons,not_mem_nil,or_false] at hk;exact⟨mem_append_left _ (by rcases hk with rfl | rfl | rfl<;>simp),GF k hk⟩
  ·exact⟨mem_append_right _ (hn.inn k hk),GnT k (hn.inn k hk) fun e=>hxn (by rw[<- e];exact hk)⟩
 case o3=>
  rcases mem_append.1 hk with hk | hk
  ·refine mem_append_left _ ?_;simp only[mem_cons,not_mem_nil,or_false] at hk ⊢;rcases hk with rfl | rfl | rfl<;>simp
  ·refine mem_append_right _ ?_;simp only[namesT,mem_append,map_append,map_cons,mem_cons] at hk;rcases hk with h | h | rfl | h
   ·exact hn.inn k (mem_append_left _ h)
   ·exact hnP.inn k (mem_append_right _ (by rw[map_append];exact mem_append_left _ h))
   ·exact hx
   ·exact hnP.inn k (mem_append_right _ (by rw[map_append];exact mem_append_right _ h))
 case o4=>
  rw[<- names_mv,ge,gu,G1,G2];refine nd_perm (lits:=[FK,a,b,y]) (names:=namesT es (P++Q)) (perm_iff_count.2 fun q=>?_) hd hf hnP.nd hnP.inn;simp only[namesT,count_append,map_append,map_cons,map_nil,count_cons,count_nil];omega
end Tr
theorem s_handU (P Q:List UE) (k0:Nat) (v:List Nat) (from_ to_:Nat) (es:List LE) (hn:NmT es (P++(k0,v)::Q)) {x:Nat} (hx:x∈nT) (hxn:x∉namesT es (P++(k0,v)::Q)) (hl:P.length+1+Q.length<=20) (hel:es.length<=1000)
  (h1:from_<v.length) (h2:to_<v.length) (h3:from_≠to_) (hv:v.length<=64) (hm:∀n∈v,1<=n/\n<=64) :
  CallS Try.prog 54 [.d (.ptr FK 0),pInt .i64 ((P.length+1:Nat):Int),pInt .i64 from_,pInt .i64 to_] [] (tIn es (P++(k0,v)::Q)) (.tup [])
   (tOut es (P++(x,(v.set from_ (v.getD from_ 0 - 1)).set to_ (v.getD to_ 0+1))::Q)):=by
 have hnP:NmT es (P++Q):=nm_sub hn (List.Sublist.refl _) ((List.Sublist.refl P).append (sublist_cons_self _ _));refine callS_sem Try.func54 (by rfl) rfl (by kernel_rfl) (by rfl) ([FK,FK1,FK2]++namesT es (P++(k0,v)::Q)) (fun k hk=>by rw[nil_append,tIn_keys] at hk;exact hk) ?_;refine Smc.cut (le:=[(0,.d (.ptr FK 0)),(1,pInt .i64 ((P.length+1:Nat):Int)),(2,pInt .i64 from_),(3,pInt .i64 to_)]) (m:=ksF [(900,k0)]) (wk_lvl hn (P.length+1+Q.length) rfl ⟨⟨rfl,rfl,rfl⟩,.inl rfl,.inl rfl,.inl rfl,trivial⟩) ?_;refine Smc.of rfl ?_;have hg1:v.getD from_ 0=v[from_]:=by rw[List.getD_eq_getElem?_getD,List.getElem?_eq_getElem h1];rfl
 have hg2:v.getD to_ 0=v[to_]:=by rw[List.getD_eq_getElem?_getD,List.getElem?_eq_getElem h2];rfl
 have m1:=hm _ (List.getElem_mem h1);have m2:=hm _ (List.getElem_mem h2);have r1:((P++(900,v)::Q).map urow)[0+(((P.length+1:Nat):Int) - 1).toNat]? = some [.arr 900 3 1 0 v.length]:=by
  rw[show 0+(((P.length+1:Nat):Int) - 1).toNat=P.length by omega,map_append,List.getElem?_append_right (by rw[length_map];exact Nat.le_refl _),length_map,sub_self];rfl
 have r2:((v.map natC).map (List.map D.c))[0+((from_:Nat):Int).toNat]? = some [.c (.v (.int .i64 (v[from_]:Int)))]:=by
  rw[show 0+((from_:Nat):Int).toNat=from_ by omega,List.getElem?_map,List.getElem?_map,List.getElem?_eq_getElem h1];rfl
 have r3:∀r,(((v.map natC).map (List.map D.c)).set (0+((from_:Nat):Int).toNat) r)[0+((to_:Nat):Int).toNat]? = some [.c (.v (.int .i64 (v[to_]:Int)))]:=fun r=>by
  rw[show 0+((from_:Nat):Int).toNat=from_ by omega,show 0+((to_:Nat):Int).toNat=to_ by omega,List.getElem?_set_ne h3,List.getElem?_map,List.getElem?_map,List.getElem?_eq_getElem h2];rfl
 ((conv=>whnf);repeat' ((first|(with_reducible first|apply a_|apply b_|apply c_)|((with_reducible first|apply d_|apply e_|apply f_|apply g_|apply h_);first|omega|simp only[q_]<;>omega)|((with_reducible apply i_);first|omega|simp only[q_]<;>omega)|((with_reducible apply h_);first|decide|kernel_rfl)|refine s_ (by decide) ?_|refine t_ (by decide) ?_|(first|refine Row.mk _ r1 ?_|refine Row.mk _ r2 ?_|refine Row.mk _ (r3 _) ?_)|with_reducible first|apply l_|apply m_|apply n_|apply o_|refine p_ (fun _=>?_) (fun _=>?_))<;>conv=>whnf));have hR:=nm_fam hnP;have look:∀q∈famT es (P++Q),hpL ([(FK,.box 43 [.arr FK1 44 1 0 es.length,.arr FK2 61 1 0 (P.length+1+Q.length)]),(FK1,.darr 44 1 (es.map LE.row)),(FK2,.darr 61 1 ((P++(900,v)::Q).map urow)),(900,lvlH v)]++famT es (P++Q)) q.1=some q.2:=fun q hq=>hR.past rfl hq;refine ret_lvl hn hx hxn FK1 FK2 900 rfl rfl (has_of ?_ rfl ?_ (fun e he=>?_) (fun p hp=>?_))
 ·rw[show (P++(900,(v.set from_ (v.getD from_ 0 - 1)).set to_ (v.getD to_ 0+1))::Q).length=P.length+1+Q.length by rw[length_append,length_cons];omega];rfl
 ·refine congrArg (fun r=>some (HB.darr 61 1 r)) ?_;rw[map_append,map_append,map_cons,map_cons]
  congr 2
  show [D.arr 900 3 1 0 _]=[D.arr 900 3 1 0 _];rw[length_set,length_set]
 ·have hm:e.fam∈famT es (P++Q):=mem_append_left _ (mem_map.2 ⟨e,he,rfl⟩);have hb:=(hR.keys e.fam hm).1;repeat refine app_fam rfl hb ?_
  exact look e.fam hm
 ·have hp':p=(900,(v.set from_ (v.getD from_ 0 - 1)).set to_ (v.getD to_ 0+1))\/p∈P++Q:=by
   simp only[mem_append,mem_cons] at hp ⊢;rcases hp with h | h | h
   ·exact .inr (.inl h)
   ·exact .inl h
   ·exact .inr (.inr h)
  rcases hp' with rfl | hp
  ·refine (lvl_eq ?_:_);rw[show 0+((from_:Nat):Int).toNat=from_ by omega,show 0+((to_:Nat):Int).toNat=to_ by omega,hg1,hg2];show (((v.map natC).map (List.map D.c)).set from_ [D.c (.v (.int .i64 ((v[from_]:Int) - 1)))]).set to_ [D.c (.v (.int .i64 ((v[to_]:Int)+1)))]=_;rw[lvl_set v from_ (n:=v[from_] - 1) (by omega),lvl_set _ to_ (n:=v[to_]+1) (by omega)]
  ·have hm:ufam p∈famT es (P++Q):=mem_append_right _ (mem_map.2 ⟨p,hp,rfl⟩);have hb:=(hR.keys (ufam p) hm).1;repeat refine app_fam rfl hb ?_
   exact look (ufam p) hm
end
section
open Go.RowKit K
open Tr
theorem s_joinU (P Q:List UE) (k0:Nat) (v:List Nat) (m_:Nat) (es:List LE) (hn:NmT es (P++(k0,v)::Q)) {x:Nat} (hx:x∈nT) (hxn:x∉namesT es (P++(k0,v)::Q)) (hl:P.length+1+Q.length<=20) (hel:es.length<=1000)
  (h2:m_+1<v.length) (hv:v.length<=64) (hm:∀n∈v,1<=n/\n<=64) :
  CallS Try.prog 55 [.d (.ptr FK 0),pInt .i64 ((P.length+1:Nat):Int),pInt .i64 m_] [] (tIn es (P++(k0,v)::Q)) (.tup [])
   (tOut es (P++(x,(v.set m_ (v.getD m_ 0+v.getD (m_+1) 0)).eraseIdx (m_+1))::Q)):=by
 have hnP:NmT es (P++Q):=nm_sub hn (List.Sublist.refl _) ((List.Sublist.refl P).append (sublist_cons_self _ _));refine callS_sem Try.func55 (by rfl) rfl (by kernel_rfl) (by rfl) ([FK,FK1,FK2]++namesT es (P++(k0,v)::Q)) (fun k hk=>by rw[nil_append,tIn_keys] at hk;exact hk) ?_;refine Smc.cut (le:=[(0,.d (.ptr FK 0)),(1,pInt .i64 ((P.length+1:Nat):Int)),(2,pInt .i64 m_)]) (m:=ksF [(900,k0)]) (wk_lvl hn (P.length+1+Q.length) rfl ⟨⟨rfl,rfl,rfl⟩,.inl rfl,.inl rfl,trivial⟩) ?_;refine Smc.of rfl ?_;have h1:m_<v.length:=by omega
 have hg1:v.getD m_ 0=v[m_]:=by rw[List.getD_eq_getElem?_getD,List.getElem?_eq_getElem h1];rfl
 have hg2:v.getD (m_+1) 0=v[m_+1]:=by rw[List.getD_eq_getElem?_getD,List.getElem?_eq_getElem h2];rfl
 have m1:=hm _ (List.getElem_mem h1);have m2:=hm _ (List.getElem_mem h2);have hvm:((v.map natC).map (List.map D.c)).length=v.length:=by rw[length_map,length_map]
 have r1:((P++(900,v)::Q).map urow)[0+(((P.length+1:Nat):Int) - 1).toNat]? = some [.arr 900 3 1 0 v.length]:=by
  rw[show 0+(((P.length+1:Nat):Int) - 1).toNat=P.length by omega,map_append,List.getElem?_append_right (by rw[length_map];exact Nat.le_refl _),length_map,sub_self];rfl
 have r2:((v.map natC).map (List.map D.c))[0+((m_:Nat):Int).toNat]? = some [.c (.v (.int .i64 (v[m_]:Int)))]:=by
  rw[show 0+((m_:Nat):Int).toNat=m_ by omega,List.getElem?_map,List.getElem?_map,List.getElem?_eq_getElem h1];rfl
 have r3:((v.map natC).map (List.map D.c))[0+(((m_:Nat):Int)+1).toNat]? = some [.c (.v (.int .i64 (v[m_+1]:Int)))]:=by
  rw[show 0+(((m_:Nat):Int)+1).toNat=m_+1 by omega,List.getElem?_map,List.getElem?_map,List.getElem?_eq_getElem h2];rfl
 ((conv=>whnf);repeat' ((first|(with_reducible first|apply a_|apply b_|apply c_)|((with_reducible first|apply d_|apply e_|apply f_|apply g_|apply h_);first|omega|simp only[q_]<;>omega)|((with_reducible apply i_);first|omega|simp only[q_]<;>omega)|((with_reducible apply h_);first|decide|kernel_rfl)|refine s_ (by decide) ?_|refine t_ (by decide) ?_|(first|refine Row.mk _ r1 ?_|refine Row.mk _ r2 ?_|refine Row.mk _ r3 ?_)|with_reducible first|apply l_|apply m_|apply n_|apply o_|refine p_ (fun _=>?_) (fun _=>?_))<;>conv=>whnf));obtain⟨w,hw⟩:∃w,w=v.set m_ (v[m_]+v[m_+1]):=⟨_,rfl⟩;have hwl:w.length=v.length:=by rw[hw,length_set]
 have hwm:((w.map natC).map (List.map D.c)).length=v.length:=by rw[length_map,length_map,hwl]
 have hset:((v.map natC).map (List.map D.c)).set (0+((m_:Nat):Int).toNat) [D.c (.v (.int .i64 ((v[m_]:Int)+v[m_+1])))]=(w.map natC).map (List.map D.c):=by
  rw[show 0+((m_:Nat):Int).toNat=m_ by omega,lvl_set v m_ (n:=v[m_]+v[m_+1]) (by omega),hw]
 have sd:=s_del_int ((w.map natC).map (List.map D.c)) (m_+1) (by rw[hwm];exact h2) (by rw[hwm];omega) (hon_cs _ _ _ _) [] Fam.nil;rw[hwm,show ((m_+1:Nat):Int)=(m_:Int)+1 from rfl,show ((m_+1+1:Nat):Int)=(m_:Int)+2 from rfl] at sd;refine call_cs [(FK,900),(NK,80)] sd rfl rfl rfl rfl rfl (fun q hq=>?_) (fun y hy=>?_) (show NK∈[FK,NK] by decide) rfl (fun q hq=>?_) ?_
 ·simp only[cons_append,nil_append,mem_cons,not_mem_nil,or_false] at hq;rcases hq with rfl | rfl
  ·exact hon_cs _ _ _ _
  ·exact hon_sub (hon_cs _ 3 1 (w.map natC)) del_sub
 ·simp only[mem_cons,not_mem_nil,or_false] at hy;rcases hy with rfl | rfl | rfl
  ·show FK∈_;decide
  ·trivial
  ·trivial
 ·simp only[mem_cons,not_mem_nil,or_false] at hq;subst hq;exact congrArg (fun r=>some (HB.darr 3 1 r)) hset
 ((conv=>whnf);repeat' ((first|(with_reducible first|apply a_|apply b_|apply c_)|((with_reducible first|apply d_|apply e_|apply f_|apply g_|apply h_);first|omega|simp only[q_]<;>omega)|((with_reducible apply i_);first|omega|simp only[q_]<;>omega)|((with_reducible apply h_);first|decide|kernel_rfl)|refine s_ (by decide) ?_|refine t_ (by decide) ?_|(first|refine Row.mk _ r1 ?_)|with_reducible first|apply l_|apply m_|apply n_|apply o_|refine p_ (fun _=>?_) (fun _=>?_))<;>conv=>whnf));have hR:=nm_fam hnP;have look:∀q∈famT es (P++Q),hpL ([(FK,.box 43 [.arr FK1 44 1 0 es.length,.arr FK2 61 1 0 (P.length+1+Q.length)]),(FK1,.darr 44 1 (es.map LE.row)),(FK2,.darr 61 1 ((P++(900,v)::Q).map urow)),(900,lvlH v)]++famT es (P++Q)) q.1=some q.2:=fun q hq=>hR.past rfl hq;obtain⟨z,hz⟩:∃z,z=(v.set m_ (v.getD m_ 0+v.getD (m_+1) 0)).eraseIdx (m_+1):=⟨_,rfl⟩;have hzw:z=w.eraseIdx (m_+1):=by rw[hz,hw,hg1,hg2]
 have hzl:z.length=v.length - 1:=by rw[hzw,List.length_eraseIdx_of_lt (by omega),hwl]
 rw[<- hz];refine ret_lvl hn hx hxn FK1 FK2 80 rfl rfl (has_of ?_ rfl ?_ (fun e he=>?_) (fun p hp=>?_))
 ·rw[show (P++(80,z)::Q).length=P.length+1+Q.length by rw[length_append,length_cons];omega];rfl
 ·refine congrArg (fun r=>some (HB.darr 61 1 r)) ?_;rw[map_append,map_append,map_cons,map_cons];refine (set_mid2 (by rw[length_map];omega) _).trans ?_
  congr 2
  show [D.arr 80 3 1 0 _]=[D.arr 80 3 1 0 _];rw[hzl]
 ·have hm:e.fam∈famT es (P++Q):=mem_append_left _ (mem_map.2 ⟨e,he,rfl⟩);have hb:=(hR.keys e.fam hm).1;repeat refine app_fam rfl hb ?_
  exact look e.fam hm
 ·have hp':p=(80,z)\/p∈P++Q:=by
   simp only[mem_append,mem_cons] at hp ⊢;rcases hp with h | h | h
   ·exact .inr (.inl h)
   ·exact .inl h
   ·exact .inr (.inr h)
  rcases hp' with rfl | hp
  ·refine (lvl_eq ?_:_);rw[hzw,<- map_take,<- map_take,<- map_drop,<- map_drop,<- map_append,<- map_append,List.eraseIdx_eq_take_drop_succ]
  ·have hm:ufam p∈famT es (P++Q):=mem_append_right _ (mem_map.2 ⟨p,hp,rfl⟩);have hb:=(hR.keys (ufam p) hm).1;repeat refine app_fam rfl hb ?_
   exact look (ufam p) hm
end
section
open Go.RowKit K
section
variable {c:Ctx} {σ:Sg} {h:Hp} {w:World}
theorem fz_trim {k e sz:Nat} {rows rows':List (List D)} (hk:h k=some (.darr e sz rows)) (hs:Nat):Fz c σ (upd h k (some (.darr e sz rows'))) hs=Fz c σ h hs:=by
 funext b o
 unfold Fz;apply propext;refine or_congr Iff.rfl (and_congr Iff.rfl (and_congr Iff.rfl ⟨fun H q m hb h1 h2=>?_,fun H q m hb h1 h2=>?_⟩))
 ·by_cases e1:q=k
  ·subst e1;have:=H q m _ (by rw[upd_same]) h2;exact this.elim
  ·exact H q m hb (by rw[upd_ne _ _ e1];exact h1) h2
 ·by_cases e1:q=k
  ·subst e1;have:=H q m _ hk h2;exact this.elim
  ·exact H q m hb (by rw[upd_ne _ _ e1] at h1;exact h1) h2
theorem sw_trim {k e sz:Nat} {rows:List (List D)} (m:Nat) (hk:h k=some (.darr e sz rows)) (hs:SW c σ h w):SW c σ (upd h k (some (.darr e sz (rows.take m)))) w:=by
 have hfz:=fz_trim (c:=c) (σ:=σ) (rows':=rows.take m) hk w.heap.size;refine⟨hs.os,hs.tape,hs.output,hs.size,hs.block,fun q hb hq=>?_,fun q q' g n n' h1 h2=>hs.inj q q' g n n' ?_ ?_,by rw[hfz];exact hs.kept,hs.shape,hs.sg0⟩
 ·rw[hfz];by_cases e1:q=k
  ·subst e1;rw[upd_same] at hq;cases hq;obtain⟨r0,r00,ob,n,r1,r2⟩:=hs.hp q _ hk;refine⟨r0,fun r hr=>r00 r (mem_of_mem_take hr),ob,n,r1,?_⟩;cases ob with
   | none=>subst r2;exact take_nil|some g=>
    obtain⟨q1,cur,q2,q3,q4⟩:=r2;rcases Nat.le_total m rows.length with hm | hm
    ·have hl:(rows.take m).length=m:=by rw[length_take];exact min_eq_left hm
     have hm2:=mul_le_mul_right sz hm;refine⟨q1,cur,q2,by rw[hl];omega,?_⟩;have:=q4.take (m*sz);rw[take_take,min_eq_left hm2,take_flat r00 hm] at this;rw[hl];exact this
    ·rw[take_of_length_le hm];exact⟨q1,cur,q2,q3,q4⟩
  ·rw[upd_ne _ _ e1] at hq;exact hs.hp q hb hq
 ·by_cases e1:q=k
  ·subst e1;rw[hk];simp
  ·rw[upd_ne _ _ e1] at h1;exact h1
 ·by_cases e1:q'=k
  ·subst e1;rw[hk];simp
  ·rw[upd_ne _ _ e1] at h2;exact h2
end
theorem Smc.trim {P:Program} {nt:Nat} {fk:List Nat} {X:XT} {cd:Code} {e:Env} {h:Hp} {n:List Nat} {Q:Cont} {k e1 sz:Nat} {rows:List (List D)} (m:Nat) (hk:h k=some (.darr e1 sz rows)) (H:Smc P nt fk X cd e (upd h k (some (.darr e1 sz (rows.take m)))) n Q):Smc P nt fk X cd e h n Q:=
 ⟨fun c hfk hc σ a w hs hf=>by
  have hfz:=fz_trim (c:=c) (σ:=σ) (rows':=rows.take m) hk w.heap.size;exact H.out' hfk hc ⟨sw_trim m hk hs.toSW,by rw[hfz];exact hs.env,hs.defers,hs.nt⟩ hf⟩
theorem Smc.cond {P:Program} {nt:Nat} {fk:List Nat} {X:XT} {o:Operand} {x y:Code} {e:Env} {h:Hp} {n:List Nat} {Q:Cont} {b:Bool} (hb:ev e o=.d (.c (.v (.bool b)))) (ht:b=true->Smc P nt fk X x e h n Q) (hff:b=false->Smc P nt fk X y e h n Q):Smc P nt fk X (.cond o x y) e h n Q:=
 ⟨fun c hfk hc σ a w hs hf=>by
  have h1:=rep_ev hs o;rw[hb] at h1;have h2:=rep_v h1;exact wp_cond_split h2 (fun hb'=>(ht hb').out' hfk hc hs hf) (fun hb'=>(hff hb').out' hfk hc hs hf)⟩
end
section
open Go.RowKit K
open Tr
namespace Tr
theorem ro_F {P:Program} {f:FuncId} {i j r:Int} {h:Hp} {K:OpK} {X:Value->Hp->Prop} {es es':List LE} {us us':List UE} (hs:CallS P f [.d (.ptr FK 0),pInt .i64 i,pInt .i64 j] (tIn es us) [] (pInt .i64 r) []) (hn:NmT es us) (F:Nat->Nat)
  (f0:F FK=FK) (f1:F FK1=FK1) (f2:F FK2=FK2) (he:es.map (LE.mv F)=es') (hu:us.map (umv F)=us') (hnd:([FK,FK1,FK2]++namesT es' us').Nodup) (hh:Has h FK FK1 FK2 es' us') (hk:∀rf,K (pInt .i64 r) [] rf) :
  CallP P f [.d (.ptr FK 0),pInt .i64 i,pInt .i64 j] h K X:=by
 refine call_ro hs F hn (map_nd_inj ?_) (fun x hx=>?_) trivial ?_ ?_ hk
 ·rw[map_append,<- names_mv,he,hu];show ([F FK,F FK1,F FK2]++_).Nodup;rw[f0,f1,f2];exact hnd
 ·simp only[mem_cons,not_mem_nil,or_false] at hx;rcases hx with rfl | rfl | rfl
  ·rfl
  ·trivial
  ·trivial
 ·show [PV.d (.ptr (F FK) 0),_,_]=_;rw[f0];rfl
 ·rw[f0,f1,f2,he,hu];exact hh
theorem ro_id {P:Program} {f:FuncId} {i j r:Int} {h:Hp} {K:OpK} {X:Value->Hp->Prop} {es:List LE} {us:List UE} (hs:CallS P f [.d (.ptr FK 0),pInt .i64 i,pInt .i64 j] (tIn es us) [] (pInt .i64 r) []) (hn:NmT es us)
  (hh:Has h FK FK1 FK2 es us) (hk:∀rf,K (pInt .i64 r) [] rf):CallP P f [.d (.ptr FK 0),pInt .i64 i,pInt .i64 j] h K X:=
 ro_F hs hn id rfl rfl rfl (mv_same fun e _=>rfl) (umv_same fun p _=>rfl) (by have:=tIn_nd (b:=FK) (l:=FK1) (u:=FK2) rfl hn;rwa [tIn_keys] at this) hh hk
theorem wk_all {es:List LE} {us:List UE} (hn:NmT es us) {e:Env} {le:List (Nat×PV)} {lh:Rf} (hlh:∀q∈lh,q∈tIn es us) (he:PLes (fnL (mR (Fl []) (ksF []))) (ksF []) e le) :
  Wk ([FK,FK1,FK2]++namesT es us) e (hpL (tIn es us)) le lh (ksF []):=
 wk_in [] rfl rfl rfl rfl hn (mv_same fun e _=>rfl) (umv_same fun p _=>rfl) (fun k hk=>hn.inn k hk) lh hlh he rfl
theorem ret_all {es:List LE} {us us':List UE} (hn:NmT es us) (hs:us'.Sublist us) (a b:Nat) (hd:nd [FK,a,b]=true) (hf:[FK,a,b].all farK=true) {h:Hp} (hh:Has h FK a b es us') :
  RetS ([FK,FK1,FK2]++namesT es us) h (.tup []) (tOut es us') (.tup []):=by
 obtain⟨G,hG⟩:∃G,G=Fl [(NK1,a),(NK2,b)]:=⟨_,rfl⟩;have hn':NmT es us':=nm_sub hn (List.Sublist.refl _) hs;have G1:G NK1=a:=by rw[hG];exact Fl_hit
 have G2:G NK2=b:=by rw[hG,Fl_skip (by decide)];exact Fl_hit
 have GN:∀k,k≠NK1->k≠NK2->G k=k:=fun k h1 h2=>by
  rw[hG];refine Fl_no fun p hp=>?_;simp only[mem_cons,not_mem_nil,or_false] at hp;rcases hp with rfl | rfl
  ·exact fun e=>h1 e.symm
  ·exact fun e=>h2 e.symm
 have GnT:∀k∈nT,G k=k:=fun k hk=>by
  have:=nT_big k hk;exact GN k (by show _≠2000001;omega) (by show _≠2000002;omega)
 have GF:∀k,k=FK\/k=FK1\/k=FK2->G k=k:=fun k hk=>by
  have hk:k=1000000\/k=1000001\/k=1000002:=hk;exact GN k (by show _≠2000001;omega) (by show _≠2000002;omega)
 have ge:es.map (LE.mv G)=es:=mv_same fun e he=>GnT _ (es_in hn e he);have gu:us'.map (umv G)=us':=umv_same fun p hp=>GnT _ (us_in hn' p hp);refine ret_has ([FK,FK1,FK2,NK1,NK2]++nT) G (GF _ (.inl rfl)) (us:=us') ?o1 (fun k hk=>?o2) (fun k hk=>?o3) ?o4 rfl
 case o1=>rw[ge,gu,G1,G2];exact hh
 case o2=>
  rcases mem_append.1 hk with hk | hk
  ·simp only[mem_cons,not_mem_nil,or_false] at hk;exact⟨mem_append_left _ (by rcases hk with rfl | rfl | rfl<;>simp),GF k hk⟩
  ·exact⟨mem_append_right _ (hn.inn k hk),GnT k (hn.inn k hk)⟩
 case o3=>
  rcases mem_append.1 hk with hk | hk
  ·refine mem_append_left _ ?_;simp only[mem_cons,not_mem_nil,or_false] at hk ⊢;rcases hk with rfl | rfl | rfl<;>simp
  ·exact mem_append_right _ (hn'.inn k hk)
 case o4=>
  rw[<- names_mv,ge,gu,G1,G2];exact nd_perm (lits:=[FK,a,b]) (names:=namesT es us') (List.Perm.refl _) hd hf hn'.nd hn'.inn
end Tr
theorem s_mendT (P:List UE) (k0:Nat) (v:List Nat) (at_:Nat) (es:List LE) (hn:NmT es (P++[(k0,v)])) (hok:∀e∈es,e.ok) (hl:P.length<=20) (hel:es.length<=1000) (hat:at_<v.length) (hv:v.length<=64) (hm:∀n∈v,1<=n/\n<=64) :
  CallS Try.prog 31 [.d (.ptr FK 0),pInt .i64 ((P.length+1:Nat):Int),pInt .i64 at_] [] (tIn es (P++[(k0,v)])) (.tup [])
   (tOut es (if v.getD at_ 0=1 then P else P++[(k0,v)])):=by
 obtain⟨us,hus⟩:∃us,us=P++[(k0,v)]:=⟨_,rfl⟩;rw[<- hus] at hn ⊢;have husl:us.length=P.length+1:=by rw[hus,length_append];rfl
 have hg:v.getD at_ 0=v[at_]:=by rw[List.getD_eq_getElem?_getD,List.getElem?_eq_getElem hat];rfl
 have m1:=hm _ (List.getElem_mem hat);have sz:=s_sizeU hn hok P.length (by omega) v (by rw[hus,map_append];exact get_mid2 (by rw[length_map])) at_ hat;refine callS_sem Try.func31 (by rfl) rfl (by kernel_rfl) (by rfl) ([FK,FK1,FK2]++namesT es us) (fun k hk=>by rw[nil_append,tIn_keys] at hk;exact hk) ?_;refine Smc.cut (le:=[(0,.d (.ptr FK 0)),(1,pInt .i64 ((P.length+1:Nat):Int)),(2,pInt .i64 at_)])
  (lh:=[(FK,.box 43 [.arr FK1 44 1 0 es.length,.arr FK2 61 1 0 (P.length+1)]),(FK1,.darr 44 1 (es.map LE.row)),(FK2,.darr 61 1 (us.map urow))]++famT es us) (m:=ksF [])
  (wk_all hn (fun q hq=>by rw[<- husl] at hq;exact hq) ⟨⟨rfl,rfl,rfl⟩,.inl rfl,.inl rfl,trivial⟩) ?_
 have hR:=nm_fam hn;have look:∀q∈famT es us,hpL ([(FK,.box 43 [.arr FK1 44 1 0 es.length,.arr FK2 61 1 0 (P.length+1)]),(FK1,.darr 44 1 (es.map LE.row)),(FK2,.darr 61 1 (us.map urow))]++famT es us) q.1=some q.2:=fun q hq=>hR.past rfl hq;refine Smc.seqs ?_;refine Smc.seq rfl ?_;((conv=>whnf);repeat' ((first|(with_reducible first|apply a_|apply b_|apply c_)|((with_reducible first|apply d_|apply e_|apply f_|apply g_|apply h_);first|omega|simp only[q_]<;>omega)|((with_reducible apply i_);first|omega|simp only[q_]<;>omega)|((with_reducible apply h_);first|decide|kernel_rfl)|refine s_ (by decide) ?_|refine t_ (by decide) ?_|with_reducible first|apply l_|apply m_|apply n_|apply o_|refine p_ (fun _=>?_) (fun _=>?_))<;>conv=>whnf));refine Smc.cond rfl (fun _=>?_) (fun hb=>?_)
 ·refine Smc.seqs ?_;refine Smc.seq rfl ?_;((conv=>whnf);repeat' ((first|(with_reducible first|apply a_|apply b_|apply c_)|((with_reducible first|apply d_|apply e_|apply f_|apply g_|apply h_);first|omega|simp only[q_]<;>omega)|((with_reducible apply i_);first|omega|simp only[q_]<;>omega)|((with_reducible apply h_);first|decide|kernel_rfl)|refine s_ (by decide) ?_|refine t_ (by decide) ?_|with_reducible first|apply l_|apply m_|apply n_|apply o_|refine p_ (fun _=>?_) (fun _=>?_))<;>conv=>whnf));refine ro_id sz hn (has_of ?_ rfl rfl (fun e he=>?_) (fun p hp=>?_)) (fun rf=>?_)
  ·rw[husl];rfl
  ·have hm:e.fam∈famT es us:=mem_append_left _ (mem_map.2 ⟨e,he,rfl⟩);have hb:=(hR.keys e.fam hm).1;repeat refine app_fam rfl hb ?_
   exact look e.fam hm
  ·have hm:ufam p∈famT es us:=mem_append_right _ (mem_map.2 ⟨p,hp,rfl⟩);have hb:=(hR.keys (ufam p) hm).1;repeat refine app_fam rfl hb ?_
   exact look (ufam p) hm
  ((conv=>whnf);repeat' ((first|(with_reducible first|apply a_|apply b_|apply c_)|((with_reducible first|apply d_|apply e_|apply f_|apply g_|apply h_);first|omega|simp only[q_]<;>omega)|((with_reducible apply i_);first|omega|simp only[q_]<;>omega)|((with_reducible apply h_);first|decide|kernel_rfl)|refine s_ (by decide) ?_|refine t_ (by decide) ?_|with_reducible first|apply l_|apply m_|apply n_|apply o_|refine p_ (fun _=>?_) (fun _=>?_))<;>conv=>whnf))
  ·rename_i hv1;refine Smc.cond rfl (fun ht=>?_) (fun ht=>?_)
   ·refine Smc.of rfl ?_;((conv=>whnf);repeat' ((first|(with_reducible first|apply a_|apply b_|apply c_)|((with_reducible first|apply d_|apply e_|apply f_|apply g_|apply h_);first|omega|simp only[q_]<;>omega)|((with_reducible apply i_);first|omega|simp only[q_]<;>omega)|((with_reducible apply h_);first|decide|kernel_rfl)|refine s_ (by decide) ?_|refine t_ (by decide) ?_|with_reducible first|apply l_|apply m_|apply n_|apply o_|refine p_ (fun _=>?_) (fun _=>?_))<;>conv=>whnf));have hP:us.map urow=P.map urow++[urow (k0,v)]:=by rw[hus,map_append];rfl
    refine Smc.trim (k:=FK2) (e1:=61) (sz:=1) (rows:=us.map urow) P.length rfl ?_;refine Smc.of rfl ?_;((conv=>whnf);repeat' ((first|(with_reducible first|apply a_|apply b_|apply c_)|((with_reducible first|apply d_|apply e_|apply f_|apply g_|apply h_);first|omega|simp only[q_]<;>omega)|((with_reducible apply i_);first|omega|simp only[q_]<;>omega)|((with_reducible apply h_);first|decide|kernel_rfl)|refine s_ (by decide) ?_|refine t_ (by decide) ?_|with_reducible first|apply l_|apply m_|apply n_|apply o_|refine p_ (fun _=>?_) (fun _=>?_))<;>conv=>whnf));rw[if_pos (by rw[hg];omega)];have hPs:P.Sublist us:=by rw[hus];exact sublist_append_left _ _
    refine ret_all hn hPs FK1 FK2 rfl rfl (has_of ?_ rfl ?_ (fun e he=>?_) (fun p hp=>?_))
    ·rw[show (((P.length+1:Nat):Int) - 1).toNat=P.length by omega];rfl
    ·refine congrArg (fun r=>some (HB.darr 61 1 r)) ?_;rw[hP];exact take_left' (length_map _)
    ·have hm:e.fam∈famT es us:=mem_append_left _ (mem_map.2 ⟨e,he,rfl⟩);have hb:=(hR.keys e.fam hm).1;repeat refine app_fam rfl hb ?_
     refine (upd_ne _ _ ?_).trans ?_
     ·have:=nT_big _ (es_in hn e he);show e.k≠1000002;omega
     repeat refine app_fam rfl hb ?_
     exact look e.fam hm
    ·have hm:ufam p∈famT es us:=mem_append_right _ (mem_map.2 ⟨p,by rw[hus];exact mem_append_left _ hp,rfl⟩);have hb:=(hR.keys (ufam p) hm).1;repeat refine app_fam rfl hb ?_
     refine (upd_ne _ _ ?_).trans ?_
     ·have:=nT_big _ (us_in hn p (by rw[hus];exact mem_append_left _ hp));show p.1≠1000002;omega
     repeat refine app_fam rfl hb ?_
     exact look (ufam p) hm
   ·exfalso;have:=of_decide_eq_false ht;omega
  ·rename_i hv1;refine Smc.cond rfl (fun ht=>?_) (fun ht=>?_)
   ·cases ht
   ·refine Smc.of rfl ?_;((conv=>whnf);repeat' ((first|(with_reducible first|apply a_|apply b_|apply c_)|((with_reducible first|apply d_|apply e_|apply f_|apply g_|apply h_);first|omega|simp only[q_]<;>omega)|((with_reducible apply i_);first|omega|simp only[q_]<;>omega)|((with_reducible apply h_);first|decide|kernel_rfl)|refine s_ (by decide) ?_|refine t_ (by decide) ?_|with_reducible first|apply l_|apply m_|apply n_|apply o_|refine p_ (fun _=>?_) (fun _=>?_))<;>conv=>whnf));refine Smc.of rfl ?_;((conv=>whnf);repeat' ((first|(with_reducible first|apply a_|apply b_|apply c_)|((with_reducible first|apply d_|apply e_|apply f_|apply g_|apply h_);first|omega|simp only[q_]<;>omega)|((with_reducible apply i_);first|omega|simp only[q_]<;>omega)|((with_reducible apply h_);first|decide|kernel_rfl)|refine s_ (by decide) ?_|refine t_ (by decide) ?_|with_reducible first|apply l_|apply m_|apply n_|apply o_|refine p_ (fun _=>?_) (fun _=>?_))<;>conv=>whnf));rw[if_neg (by rw[hg];omega)];refine ret_all hn (List.Sublist.refl _) FK1 FK2 rfl rfl (has_of ?_ rfl rfl (fun e he=>?_) (fun p hp=>?_))
    ·rw[husl];rfl
    ·have hm:e.fam∈famT es us:=mem_append_left _ (mem_map.2 ⟨e,he,rfl⟩);have hb:=(hR.keys e.fam hm).1;repeat refine app_fam rfl hb ?_
     exact look e.fam hm
    ·have hm:ufam p∈famT es us:=mem_append_right _ (mem_map.2 ⟨p,hp,rfl⟩);have hb:=(hR.keys (ufam p) hm).1;repeat refine app_fam rfl hb ?_
     exact look (ufam p) hm
 ·exact absurd rfl (of_decide_eq_false hb)
end
section
open Go.RowKit K
open Tr
theorem Smc.via {P:Program} {nt:Nat} {fk:List Nat} {X:XT} {x y:Code} {e:Env} {h:Hp} {n:List Nat} {Q:Cont} {le:List (Nat×PV)} {lh:List (Nat×HB)} {m:List Nat} (H1:Smc P nt fk X x e h n (seqK (fun e h _=>Wk fk e h le lh m) Q)) (H2:Smc P nt fk X y (ofL le) (hpL lh) m Q):Smc P nt fk X (.seq x y) e h n Q:=
 ⟨fun c hfk hc σ a w hs hf=>by
  refine wp_seq (wp_mono (H1.out' hfk hc hs hf) ?_);intro ex a' w' hq;cases ex with
  | normal=>
   obtain⟨e',h',n',σ',hq,hs',hf'⟩:=hq;exact (Smc.cut hq H2).out' hfk hc hs' hf'
  | exit id=>exact hq|goto l=>exact hq|ret=>exact hq|panic ch=>exact hq|outgrown=>exact hq⟩
namespace Tr
theorem ro_k1 {P:Program} {f:FuncId} {i j r:Int} {h:Hp} {K:OpK} {X:Value->Hp->Prop} {es:List LE} {A B:List UE} {k1:Nat} {u:List Nat} (hs:CallS P f [.d (.ptr FK 0),pInt .i64 i,pInt .i64 j] (tIn es (A++(k1,u)::B)) [] (pInt .i64 r) [])
  (hn:NmT es (A++(k1,u)::B)) (hh:Has h FK FK1 FK2 es (A++(900,u)::B)) (hk:∀rf,K (pInt .i64 r) [] rf):CallP P f [.d (.ptr FK 0),pInt .i64 i,pInt .i64 j] h K X:=by
 have hnP:NmT es (A++B):=nm_sub hn (List.Sublist.refl _) ((List.Sublist.refl A).append (sublist_cons_self _ _));have hk1:k1∈nT:=us_in hn (k1,u) (mem_append_right _ mem_cons_self);have hk1n:k1∉namesT es (A++B):=by
  have hp:(namesT es (A++(k1,u)::B)).Perm (k1::namesT es (A++B)):=perm_iff_count.2 fun a=>by
   simp only[namesT,count_append,map_append,map_cons,count_cons];omega
  exact (nodup_cons.1 (hp.nodup_iff.1 hn.nd)).1
 have hb:=nT_big k1 hk1;have hF:∀k,k≠k1->Fl [(k1,900)] k=k:=fun k hk=>Fl_no fun p hp=>by
  rw[mem_singleton] at hp;subst hp;exact fun e=>hk e.symm
 have hN:∀k∈namesT es (A++B),Fl [(k1,900)] k=k:=fun k hk=>hF k fun e=>hk1n (by rw[<- e];exact hk);refine ro_F hs hn (Fl [(k1,900)]) (hF _ (by show 1000000≠k1;omega)) (hF _ (by show 1000001≠k1;omega)) (hF _ (by show 1000002≠k1;omega)) (mv_same fun e he=>hN _ (mem_append_left _ (mem_map.2 ⟨e,he,rfl⟩))) ?_ ?_ hh hk
 ·rw[map_append,map_cons,umv_same fun p hp=>hN _ (mem_append_right _ (mem_map.2 ⟨p,mem_append_left _ hp,rfl⟩)),umv_same fun p hp=>hN _ (mem_append_right _ (mem_map.2 ⟨p,mem_append_right _ hp,rfl⟩))];show A++(Fl [(k1,900)] k1,u)::B=_;rw[Fl_hit]
 ·refine nd_perm (lits:=[FK,FK1,FK2,900]) (names:=namesT es (A++B)) (perm_iff_count.2 fun q=>?_) rfl rfl hnP.nd hnP.inn;simp only[namesT,count_append,map_append,map_cons,map_nil,count_cons,count_nil];omega
theorem side_int {u:List Nat} {at_:Nat} (hu:∀n∈u,2<=n) (hat:at_<u.sum) (e:at_+1=(u.take (nodeF u at_+1)).sum):1<=at_:=by
 cases u with
 | nil=>simp at hat|cons a u=>
  have:=hu a mem_cons_self;rw[take_succ_cons,sum_cons] at e;omega
end Tr
set_option maxHeartbeats 4000000 in
theorem s_mendA (es:List LE) (P Q:List UE) (k1:Nat) (u:List Nat) (at_ x:Nat) (c:Nat->Nat) (hn:NmT es (P++(k1,u)::Q)) (hok:∀e∈es,e.ok) (hx:x∈nT) (hxn:x∉namesT es (P++(k1,u)::Q)) (hl:P.length+1+Q.length<=20) (hel:es.length<=1000)
  (hsz:CallS Try.prog 53 [.d (.ptr FK 0),pInt .i64 P.length,pInt .i64 at_] (tIn es (P++(k1,u)::Q)) [] (pInt .i64 (c at_)) []) (h2:2<=c at_) :
  CallS Try.prog 31 [.d (.ptr FK 0),pInt .i64 P.length,pInt .i64 at_] [] (tIn es (P++(k1,u)::Q)) (.tup []) (tOut es (P++(x,u)::Q)):=by
 have hnP:NmT es (P++Q):=nm_sub hn (List.Sublist.refl _) ((List.Sublist.refl P).append (sublist_cons_self _ _));refine callS_sem Try.func31 (by rfl) rfl (by kernel_rfl) (by rfl) ([FK,FK1,FK2]++namesT es (P++(k1,u)::Q)) (fun k hk=>by rw[nil_append,tIn_keys] at hk;exact hk) ?_;refine Smc.cut (le:=[(0,.d (.ptr FK 0)),(1,pInt .i64 P.length),(2,pInt .i64 at_)]) (m:=ksF [(900,k1)]) (wk_lvl hn (P.length+1+Q.length) rfl ⟨⟨rfl,rfl,rfl⟩,.inl rfl,.inl rfl,trivial⟩) ?_;have hR:=nm_fam hnP;have look:∀q∈famT es (P++Q),hpL ([(FK,.box 43 [.arr FK1 44 1 0 es.length,.arr FK2 61 1 0 (P.length+1+Q.length)]),(FK1,.darr 44 1 (es.map LE.row)),(FK2,.darr 61 1 ((P++(900,u)::Q).map urow)),(900,lvlH u)]++famT es (P++Q)) q.1=some q.2:=fun q hq=>hR.past rfl hq;have hHas:Has (hpL ([(FK,.box 43 [.arr FK1 44 1 0 es.length,.arr FK2 61 1 0 (P.length+1+Q.length)]),(FK1,.darr 44 1 (es.map LE.row)),(FK2,.darr 61 1 ((P++(900,u)::Q).map urow)),(900,lvlH u)]++famT es (P++Q))) FK FK1 FK2 es (P++(900,u)::Q):=by
  refine has_of ?_ rfl rfl (fun e he=>look e.fam (mem_append_left _ (mem_map.2 ⟨e,he,rfl⟩))) (fun p hp=>?_)
  ·rw[show (P++(900,u)::Q).length=P.length+1+Q.length by rw[length_append,length_cons];omega];rfl
  ·have hp':p=(900,u)\/p∈P++Q:=by
    simp only[mem_append,mem_cons] at hp ⊢;rcases hp with h | h | h
    ·exact .inr (.inl h)
    ·exact .inl h
    ·exact .inr (.inr h)
   rcases hp' with rfl | hp
   ·rfl
   ·exact look (ufam p) (mem_append_right _ (mem_map.2 ⟨p,hp,rfl⟩))
 refine Smc.seq rfl ?_;((conv=>whnf);repeat' ((first|(with_reducible first|apply a_|apply b_|apply c_)|((with_reducible first|apply d_|apply e_|apply f_|apply g_|apply h_);first|omega|simp only[q_]<;>omega)|((with_reducible apply i_);first|omega|simp only[q_]<;>omega)|((with_reducible apply h_);first|decide|kernel_rfl)|refine s_ (by decide) ?_|refine t_ (by decide) ?_|with_reducible first|apply l_|apply m_|apply n_|apply o_|refine p_ (fun _=>?_) (fun _=>?_))<;>conv=>whnf));all_goals first|(exfalso;omega)|skip
 refine Smc.seq rfl ?_;((conv=>whnf);repeat' ((first|(with_reducible first|apply a_|apply b_|apply c_)|((with_reducible first|apply d_|apply e_|apply f_|apply g_|apply h_);first|omega|simp only[q_]<;>omega)|((with_reducible apply i_);first|omega|simp only[q_]<;>omega)|((with_reducible apply h_);first|decide|kernel_rfl)|refine s_ (by decide) ?_|refine t_ (by decide) ?_|with_reducible first|apply l_|apply m_|apply n_|apply o_|refine p_ (fun _=>?_) (fun _=>?_))<;>conv=>whnf));refine ro_k1 hsz hn hHas (fun rf=>?_);((conv=>whnf);repeat' ((first|(with_reducible first|apply a_|apply b_|apply c_)|((with_reducible first|apply d_|apply e_|apply f_|apply g_|apply h_);first|omega|simp only[q_]<;>omega)|((with_reducible apply i_);first|omega|simp only[q_]<;>omega)|((with_reducible apply h_);first|decide|kernel_rfl)|refine s_ (by decide) ?_|refine t_ (by decide) ?_|with_reducible first|apply l_|apply m_|apply n_|apply o_|refine p_ (fun _=>?_) (fun _=>?_))<;>conv=>whnf));exact ret_lvl hn hx hxn FK1 FK2 900 rfl rfl hHas
end
section
open Go.RowKit K
open Tr
namespace Tr
theorem wk_keep {fk:List Nat} {es:List LE} {P Q:List UE} {k1:Nat} {u:List Nat} (hn:NmT es (P++(k1,u)::Q)) (N:Nat) (hN:N=P.length+1+Q.length) (hfk:∀k∈fk,k∈ksF [(900,k1)]) {e:Env} {h:Hp} {le:List (Nat×PV)} (hh:Has h FK FK1 FK2 es (P++(900,u)::Q)) (he:PLes (fnL (mR (Fl []) (ksF [(900,k1)]))) (ksF [(900,k1)]) e le) :
  Wk fk e h le ([(FK,.box 43 [.arr FK1 44 1 0 es.length,.arr FK2 61 1 0 N]),(FK1,.darr 44 1 (es.map LE.row)),(FK2,.darr 61 1 ((P++(900,u)::Q).map urow)),(900,lvlH u)]++famT es (P++Q)) (ksF [(900,k1)]):=by
 have hnP:NmT es (P++Q):=nm_sub hn (List.Sublist.refl _) ((List.Sublist.refl P).append (sublist_cons_self _ _));have m1:es.map (LE.mv (Fl []))=es:=mv_same fun e _=>rfl;have m2:(P++(900,u)::Q).map (umv (Fl []))=P++(900,u)::Q:=umv_same fun p _=>rfl;refine wk_sub (wk_has (near:=[]) (Fl []) (b:=FK) (l:=FK1) (u:=FK2) (es:=es) (us:=P++(900,u)::Q) (by rw[m1,m2];exact hh) (fun k hk=>⟨hfk k hk,rfl⟩) (fun k hk=>?_) ?_ (fun q hq=>(by cases hq)) he) (fun q hq=>?_)
 ·simp only[namesT,mem_append,map_append,map_cons,mem_cons] at hk;rcases hk with hk | hk | hk | rfl | hk
  ·exact mem_append_left _ (by simpa using hk)
  ·exact mem_append_right _ (mem_append_right _ (hnP.inn k (mem_append_left _ hk)))
  ·exact mem_append_right _ (mem_append_right _ (hnP.inn k (mem_append_right _ (by rw[map_append];exact mem_append_left _ hk))))
  ·exact mem_append_right _ (mem_append_left _ (show 900∈[900] by decide))
  ·exact mem_append_right _ (mem_append_right _ (hnP.inn k (mem_append_right _ (by rw[map_append];exact mem_append_right _ hk))))
 ·rw[<- names_mv,m1,m2];refine nd_perm (lits:=[FK,FK1,FK2,900]) (names:=namesT es (P++Q)) (perm_iff_count.2 fun q=>?_) rfl rfl hnP.nd hnP.inn;show List.count q ([]++([FK,FK1,FK2]++namesT es (P++(900,u)::Q)))=_;simp only[namesT,count_append,map_append,map_cons,map_nil,count_cons,count_nil];omega
 ·rcases mem_append.1 hq with hq | hq
  ·simp only[mem_cons,not_mem_nil,or_false] at hq;rcases hq with h | h | h | h
   ·exact mem_append_right _ (mem_append_left _ (by rw[h,show N=(P++(900,u)::Q).length by rw[hN];simp;omega];exact mem_cons_self))
   ·exact mem_append_right _ (mem_append_left _ (by rw[h];simp))
   ·exact mem_append_right _ (mem_append_left _ (by rw[h];simp))
   ·refine mem_append_right _ (mem_append_right _ (mem_append_right _ ?_));rw[h,map_append];exact mem_append_right _ mem_cons_self
  ·refine mem_append_right _ (mem_append_right _ ?_);rcases mem_append.1 hq with hq | hq
   ·exact mem_append_left _ hq
   ·refine mem_append_right _ ?_;rw[map_append] at hq ⊢;rcases mem_append.1 hq with hq | hq
    ·exact mem_append_left _ hq
    ·exact mem_append_right _ (mem_cons_of_mem _ hq)
def FX (y:Nat) (N:List Nat) (k:Nat):Nat:=if k=y then 900 else if k∈N then k else if k∈nT then k+20000 else if k=NK1 then 93 else if k=NK2 then 94 else k
theorem FX_y (y:Nat) (N:List Nat):FX y N y=900:=if_pos rfl
theorem FX_n {y k:Nat} {N:List Nat} (h:k≠y) (hk:k∈N):FX y N k=k:=by unfold FX;rw[if_neg h,if_pos hk]
theorem FX_new {y k:Nat} {N:List Nat} (h:k≠y) (hk:k∉N) (ht:k∈nT):FX y N k=k+20000:=by unfold FX;rw[if_neg h,if_neg hk,if_pos ht]
theorem FX_f {y k:Nat} {N:List Nat} (hy:y∈nT) (hN:∀k∈N,k∈nT) (h1:k∉nT) (h2:k≠NK1) (h3:k≠NK2):FX y N k=k:=by
 unfold FX;rw[if_neg (fun e=>h1 (by rw[e];exact hy)),if_neg (fun e=>h1 (hN k e)),if_neg h1,if_neg h2,if_neg h3]
theorem FX_1 {y:Nat} {N:List Nat} (hy:y∈nT) (hN:∀k∈N,k∈nT):FX y N NK1=93:=by
 have h1:NK1∉nT:=fun h=>by have:=(nT_big _ h).2;have h2:NK1=2000001:=rfl;omega
 unfold FX;rw[if_neg (fun e=>h1 (by rw[e];exact hy)),if_neg (fun e=>h1 (hN _ e)),if_neg h1,if_pos rfl]
theorem FX_2 {y:Nat} {N:List Nat} (hy:y∈nT) (hN:∀k∈N,k∈nT):FX y N NK2=94:=by
 have h1:NK2∉nT:=fun h=>by have:=(nT_big _ h).2;have h2:NK2=2000002:=rfl;omega
 unfold FX;rw[if_neg (fun e=>h1 (by rw[e];exact hy)),if_neg (fun e=>h1 (hN _ e)),if_neg h1,if_neg (by decide),if_pos rfl]
theorem far_nT {k:Nat} (h:7000<=k):k∉nT:=fun hm=>by have:=(nT_big k hm).2;omega
theorem FX_val {y:Nat} {N:List Nat} (hy:y∈nT) (hN:∀k∈N,k∈nT) {k:Nat} (hk:k∈[FK,FK1,FK2,NK1,NK2]\/k∈nT) :
  (k=y/\FX y N k=900)\/(k≠y/\1000<=k/\k<7000/\(FX y N k=k\/FX y N k=k+20000)/\(FX y N k=k↔k∈N))\/(k=NK1/\FX y N k=93)\/(k=NK2/\FX y N k=94)\/(1000000<=k/\FX y N k=k):=by
 rcases hk with hk | hk
 ·simp only[mem_cons,not_mem_nil,or_false] at hk;rcases hk with rfl | rfl | rfl | rfl | rfl
  ·exact .inr (.inr (.inr (.inr ⟨by decide,FX_f hy hN (far_nT (by decide)) (by decide) (by decide)⟩)))
  ·exact .inr (.inr (.inr (.inr ⟨by decide,FX_f hy hN (far_nT (by decide)) (by decide) (by decide)⟩)))
  ·exact .inr (.inr (.inr (.inr ⟨by decide,FX_f hy hN (far_nT (by decide)) (by decide) (by decide)⟩)))
  ·exact .inr (.inr (.inl ⟨rfl,FX_1 hy hN⟩))
  ·exact .inr (.inr (.inr (.inl ⟨rfl,FX_2 hy hN⟩)))
 ·have hb:=nT_big k hk;by_cases h1:k=y
  ·exact .inl ⟨h1,by rw[h1];exact FX_y y N⟩
  ·by_cases h2:k∈N
   ·exact .inr (.inl ⟨h1,hb.1,hb.2,.inl (FX_n h1 h2),⟨fun _=>h2,fun _=>FX_n h1 h2⟩⟩)
   ·exact .inr (.inl ⟨h1,hb.1,hb.2,.inr (FX_new h1 h2 hk),⟨fun e=>by rw[FX_new h1 h2 hk] at e;omega,fun e=>absurd e h2⟩⟩)
theorem FX_inj {y:Nat} {N:List Nat} (hy:y∈nT) (hN:∀k∈N,k∈nT) {a b:Nat} (ha:a∈[FK,FK1,FK2,NK1,NK2]\/a∈nT) (hb:b∈[FK,FK1,FK2,NK1,NK2]\/b∈nT) (e:FX y N a=FX y N b):a=b:=by
 rcases FX_val hy hN ha with ⟨a1,a2⟩ | ⟨a1,a2,a3,a4,_⟩ | ⟨a1,a2⟩ | ⟨a1,a2⟩ | ⟨a1,a2⟩<;>rcases FX_val hy hN hb with ⟨b1,b2⟩ | ⟨b1,b2,b3,b4,_⟩ | ⟨b1,b2⟩ | ⟨b1,b2⟩ | ⟨b1,b2⟩<;>omega
theorem nm_ren {es:List LE} {A B:List UE} {k x:Nat} {u:List Nat} (w:List Nat) (h:NmT es (A++(k,u)::B)) (hx:x∈nT) (hxn:x∉namesT es (A++(k,u)::B)):NmT es (A++(x,w)::B):=
 nm_ins w (nm_sub h (List.Sublist.refl _) ((List.Sublist.refl A).append (sublist_cons_self _ _))) hx fun hm=>hxn (by
  simp only[namesT,mem_append,map_append,map_cons,mem_cons] at hm ⊢;rcases hm with h | h | h
  ·exact .inl h
  ·exact .inr (.inl h)
  ·exact .inr (.inr (.inr h)))
theorem nm_out {es:List LE} {A B:List UE} {k:Nat} {u:List Nat} (h:NmT es (A++(k,u)::B)):k∉namesT es (A++B):=by
 have hp:(namesT es (A++(k,u)::B)).Perm (k::namesT es (A++B)):=perm_iff_count.2 fun a=>by
  simp only[namesT,count_append,map_append,map_cons,count_cons];omega
 exact (nodup_cons.1 (hp.nodup_iff.1 h.nd)).1
theorem tree_k1 {P0:Program} {f:FuncId} {args:List PV} {h:Hp} {K:OpK} {X:Value->Hp->Prop} {es esH:List LE} {P PH Q QH:List UE} {k1:Nat} {u uH:List Nat} (hs:CallS P0 f (.d (.ptr FK 0)::args) [] (tIn es (P++(k1,u)::Q)) (.tup []) (tOut esH (PH++(k1,uH)::QH)))
  (hn:NmT es (P++(k1,u)::Q)) (hnH:NmT esH (PH++(k1,uH)::QH)) (ha:∀x∈args,∃n,x=pInt .i64 n) (hh:Has h FK FK1 FK2 es (P++(900,u)::Q)) {N:List Nat} (hN:N=namesT es (P++(k1,u)::Q))
  (hk:∀(δ:Dl) (rf:Rf),(∀ks:List Nat,(ks.all fun x=>Nat.blt x 13000||Nat.ble 1000000 x)=true->ksHas 93 ks=false->ksHas 94 ks=false->∀p∈δ,rfHas p.1 rf=true\/ksHas p.1 ks=false)->
   (∀h,Has (Dl.app h δ) FK 93 94 (esH.map (LE.mv (FX k1 N))) ((PH++(k1,uH)::QH).map (umv (FX k1 N))))->K (.tup []) δ rf):CallP P0 f (.d (.ptr FK 0)::args) h K X:=by
 have hk1:k1∈nT:=us_in hn (k1,u) (mem_append_right _ mem_cons_self);have hNn:∀k∈N,k∈nT:=fun k hk=>hn.inn k (by rw[hN] at hk;exact hk);have hk1n:=nm_out hn;have hsub:∀k∈namesT es (P++Q),k∈N/\k≠k1:=fun k hk=>⟨by
  rw[hN];simp only[namesT,mem_append,map_append,map_cons,mem_cons] at hk ⊢;rcases hk with h | h | h
  ·exact .inl h
  ·exact .inr (.inl h)
  ·exact .inr (.inr (.inr h)),fun e=>hk1n (by rw[<- e];exact hk)⟩
 obtain⟨F,hF⟩:∃F,F=FX k1 N:=⟨_,rfl⟩;have Ff:∀k,k=FK\/k=FK1\/k=FK2->F k=k:=fun k hk=>by
  have hk:k=1000000\/k=1000001\/k=1000002:=hk;rw[hF];exact FX_f hk1 hNn (far_nT (by omega)) (by show k≠2000001;omega) (by show k≠2000002;omega)
 have F1:F NK1=93:=by rw[hF];exact FX_1 hk1 hNn
 have F2:F NK2=94:=by rw[hF];exact FX_2 hk1 hNn
 have Fk:F k1=900:=by rw[hF];exact FX_y _ _
 have Fn:∀k∈namesT es (P++Q),F k=k:=fun k hk=>by rw[hF];exact FX_n (hsub k hk).2 (hsub k hk).1
 have ge:es.map (LE.mv F)=es:=mv_same fun e he=>Fn _ (mem_append_left _ (mem_map.2 ⟨e,he,rfl⟩));have gu:(P++(k1,u)::Q).map (umv F)=P++(900,u)::Q:=by
  rw[map_append,map_cons,umv_same fun p hp=>Fn _ (mem_append_right _ (mem_map.2 ⟨p,mem_append_left _ hp,rfl⟩)),umv_same fun p hp=>Fn _ (mem_append_right _ (mem_map.2 ⟨p,mem_append_right _ hp,rfl⟩))];show P++(F k1,u)::Q=_;rw[Fk]
 obtain⟨Z,hZ⟩:∃Z,Z=esH.map (LE.mv F):=⟨_,rfl⟩;obtain⟨Y,hY⟩:∃Y,Y=(PH++(k1,uH)::QH).map (umv F):=⟨_,rfl⟩;have hZY:namesT Z Y=(namesT esH (PH++(k1,uH)::QH)).map F:=by rw[hZ,hY,names_mv]
 have okH:∀k∈[FK,FK1,FK2,NK1,NK2]++(namesT es (P++(k1,u)::Q)++namesT esH (PH++(k1,uH)::QH)),k∈[FK,FK1,FK2,NK1,NK2]\/k∈nT:=fun k hk=>by
  rcases mem_append.1 hk with hk | hk
  ·exact .inl hk
  ·rcases mem_append.1 hk with hk | hk
   ·exact .inr (hn.inn k hk)
   ·exact .inr (hnH.inn k hk)
 have hYd:((nearT FK 93 94 Z Y++famT Z Y).map Prod.fst).Nodup:=by
  rw[tIn_keys,hZY];have h0:([FK,NK1,NK2]++namesT esH (PH++(k1,uH)::QH)).Nodup:=by
   have:=tIn_nd (b:=FK) (l:=NK1) (u:=NK2) rfl hnH
   rwa [tIn_keys] at this
  have okO:∀k∈[FK,NK1,NK2]++namesT esH (PH++(k1,uH)::QH),k∈[FK,FK1,FK2,NK1,NK2]\/k∈nT:=fun k hk=>by
   rcases mem_append.1 hk with hk | hk
   ·left;simp only[mem_cons,not_mem_nil,or_false] at hk ⊢;rcases hk with rfl | rfl | rfl<;>simp
   ·exact .inr (hnH.inn k hk)
  have h1:=nodup_map (F:=F) h0 (fun a ha b hb e=>FX_inj hk1 hNn (okO a ha) (okO b hb) (by rw[<- hF];exact e));rw[map_append] at h1;have e:[FK,NK1,NK2].map F=[FK,93,94]:=by
   show [F FK,F NK1,F NK2]=_;rw[Ff FK (.inl rfl),F1,F2]
  rwa [e] at h1
 refine call_tree hs F hn hnH (fun a ha b hb e=>FX_inj hk1 hNn (okH a ha) (okH b hb) (by rw[<- hF];exact e)) (fun x hx=>?_) trivial ?_ ?_ ?_
 ·rcases mem_cons.1 hx with rfl | hx
  ·rfl
  ·obtain⟨n,rfl⟩:=ha x hx;trivial
 ·rw[map_cons]
  congr 1
  ·show PV.d (.ptr (F FK) 0)=_;rw[Ff FK (.inl rfl)]
  ·conv=>rhs;rw[<- map_id args]
   refine map_congr_left fun x hx=>?_;obtain⟨n,rfl⟩:=ha x hx;rfl
 ·rw[Ff FK (.inl rfl),Ff FK1 (.inr (.inl rfl)),Ff FK2 (.inr (.inr rfl)),ge,gu];exact hh
 ·rw[Ff FK (.inl rfl),Ff FK1 (.inr (.inl rfl)),Ff FK2 (.inr (.inr rfl)),F1,F2,ge,gu,<- hZ,<- hY];refine hk _ _ (fun ks hks h93 h94 p hp=>?_) (fun h=>?_)
  ·unfold deltaOf at hp;rcases mem_append.1 hp with hp | hp
   ·obtain⟨q,hq,rfl⟩:=mem_map.1 hp;exact .inl (rfHas_of (mem_map.2 ⟨q,hq,rfl⟩))
   ·obtain⟨q,hq,rfl⟩:=mem_map.1 hp;have hqk:q.1∈[FK,93,94]++namesT Z Y:=by rw[<- tIn_keys];exact mem_map.2 ⟨q,hq,rfl⟩
    have hA:∀k∈[FK,FK1,FK2]++namesT es (P++(900,u)::Q),rfHas k (nearT FK FK1 FK2 es (P++(900,u)::Q)++famT es (P++(900,u)::Q))=true:=fun k hk=>rfHas_of (by rw[tIn_keys];exact hk);show rfHas q.1 _=true\/ksHas q.1 ks=false;rcases mem_append.1 hqk with hk | hk
    ·simp only[mem_cons,not_mem_nil,or_false] at hk;rcases hk with e | e | e
     ·rw[e];exact .inl (hA FK (by simp))
     ·rw[e];exact .inr h93
     ·rw[e];exact .inr h94
    ·rw[hZY] at hk;obtain⟨y,hy,e⟩:=mem_map.1 hk;rcases FX_val (N:=N) hk1 hNn (.inr (hnH.inn y hy)) with ⟨b1,b2⟩ | ⟨b1,b2,b3,b4,b5⟩ | ⟨b1,b2⟩ | ⟨b1,b2⟩ | ⟨b1,b2⟩
     ·left;rw[<- e,hF,b2];exact hA 900 (mem_append_right _ (by simp[namesT]))
     ·rcases b4 with b4 | b4
      ·left;rw[<- e,hF,b4];have hyN:=b5.1 b4;rw[hN] at hyN;refine hA y (mem_append_right _ ?_);simp only[namesT,mem_append,map_append,map_cons,mem_cons] at hyN ⊢;rcases hyN with h | h | h | h
       ·exact .inl h
       ·exact .inr (.inl h)
       ·exact absurd h b1
       ·exact .inr (.inr (.inr h))
      ·right;rw[<- e,hF,b4];exact ksHas_far (by omega) (by omega) hks
     ·have:=nT_big y (hnH.inn y hy);have h1:NK1=2000001:=rfl;omega
     ·have:=nT_big y (hnH.inn y hy);have h1:NK2=2000002:=rfl;omega
     ·have:=nT_big y (hnH.inn y hy);omega
  ·rw[<- hF,<- hZ,<- hY];exact fun q hq=>delta_out hYd hq
end Tr
set_option maxHeartbeats 4000000 in
theorem s_mendB (es esH:List LE) (P PH Q:List UE) (k1:Nat) (u:List Nat) (at_ x:Nat) (c:Nat->Nat) (hn:NmT es (P++(k1,u)::Q)) (hok:∀e∈es,e.ok) (hx:x∈nT) (hxn:x∉namesT es (P++(k1,u)::Q)) (hl:P.length+1+Q.length<=20) (hel:es.length<=1000)
  (hu:∀n∈u,2<=n/\n<=4) (hul:u.length<=64) (hat:at_<u.sum) (hus:u.sum<=64)
  (hsz:CallS Try.prog 53 [.d (.ptr FK 0),pInt .i64 P.length,pInt .i64 at_] (tIn es (P++(k1,u)::Q)) [] (pInt .i64 (c at_)) []) (h2:¬2<=c at_)
  (hsz2:CallS Try.prog 53 [.d (.ptr FK 0),pInt .i64 P.length,pInt .i64 (sideF u at_)] (tIn es (P++(k1,u)::Q)) [] (pInt .i64 (c (sideF u at_))) []) (h3:2<c (sideF u at_))
  (hnH:NmT esH (PH++(k1,u)::Q)) (hxH:x∉namesT esH (PH++(k1,u)::Q))
  (hh:CallS Try.prog 54 [.d (.ptr FK 0),pInt .i64 P.length,pInt .i64 (sideF u at_),pInt .i64 at_] [] (tIn es (P++(k1,u)::Q)) (.tup []) (tOut esH (PH++(k1,u)::Q))) :
  CallS Try.prog 31 [.d (.ptr FK 0),pInt .i64 P.length,pInt .i64 at_] [] (tIn es (P++(k1,u)::Q)) (.tup []) (tOut esH (PH++(x,u)::Q)):=by
 have hnP:NmT es (P++Q):=nm_sub hn (List.Sublist.refl _) ((List.Sublist.refl P).append (sublist_cons_self _ _));refine callS_sem Try.func31 (by rfl) rfl (by kernel_rfl) (by rfl) ([FK,FK1,FK2]++namesT es (P++(k1,u)::Q)) (fun k hk=>by rw[nil_append,tIn_keys] at hk;exact hk) ?_;refine Smc.cut (le:=[(0,.d (.ptr FK 0)),(1,pInt .i64 P.length),(2,pInt .i64 at_)]) (m:=ksF [(900,k1)]) (wk_lvl hn (P.length+1+Q.length) rfl ⟨⟨rfl,rfl,rfl⟩,.inl rfl,.inl rfl,trivial⟩) ?_;have hR:=nm_fam hnP;have look:∀q∈famT es (P++Q),hpL ([(FK,.box 43 [.arr FK1 44 1 0 es.length,.arr FK2 61 1 0 (P.length+1+Q.length)]),(FK1,.darr 44 1 (es.map LE.row)),(FK2,.darr 61 1 ((P++(900,u)::Q).map urow)),(900,lvlH u)]++famT es (P++Q)) q.1=some q.2:=fun q hq=>hR.past rfl hq;have hHas:Has (hpL ([(FK,.box 43 [.arr FK1 44 1 0 es.length,.arr FK2 61 1 0 (P.length+1+Q.length)]),(FK1,.darr 44 1 (es.map LE.row)),(FK2,.darr 61 1 ((P++(900,u)::Q).map urow)),(900,lvlH u)]++famT es (P++Q))) FK FK1 FK2 es (P++(900,u)::Q):=by
  refine has_of ?_ rfl rfl (fun e he=>look e.fam (mem_append_left _ (mem_map.2 ⟨e,he,rfl⟩))) (fun p hp=>?_)
  ·rw[show (P++(900,u)::Q).length=P.length+1+Q.length by rw[length_append,length_cons];omega];rfl
  ·have hp':p=(900,u)\/p∈P++Q:=by
    simp only[mem_append,mem_cons] at hp ⊢;rcases hp with h | h | h
    ·exact .inr (.inl h)
    ·exact .inl h
    ·exact .inr (.inr h)
   rcases hp' with rfl | hp
   ·rfl
   ·exact look (ufam p) (mem_append_right _ (mem_map.2 ⟨p,hp,rfl⟩))
 refine Smc.seq rfl ?_;((conv=>whnf);repeat' ((first|(with_reducible first|apply a_|apply b_|apply c_)|((with_reducible first|apply d_|apply e_|apply f_|apply g_|apply h_);first|omega|simp only[q_]<;>omega)|((with_reducible apply i_);first|omega|simp only[q_]<;>omega)|((with_reducible apply h_);first|decide|kernel_rfl)|refine s_ (by decide) ?_|refine t_ (by decide) ?_|with_reducible first|apply l_|apply m_|apply n_|apply o_|refine p_ (fun _=>?_) (fun _=>?_))<;>conv=>whnf));all_goals first|(exfalso;omega)|skip
 refine Smc.seq rfl ?_;((conv=>whnf);repeat' ((first|(with_reducible first|apply a_|apply b_|apply c_)|((with_reducible first|apply d_|apply e_|apply f_|apply g_|apply h_);first|omega|simp only[q_]<;>omega)|((with_reducible apply i_);first|omega|simp only[q_]<;>omega)|((with_reducible apply h_);first|decide|kernel_rfl)|refine s_ (by decide) ?_|refine t_ (by decide) ?_|with_reducible first|apply l_|apply m_|apply n_|apply o_|refine p_ (fun _=>?_) (fun _=>?_))<;>conv=>whnf));refine ro_k1 hsz hn hHas (fun rf=>?_);((conv=>whnf);repeat' ((first|(with_reducible first|apply a_|apply b_|apply c_)|((with_reducible first|apply d_|apply e_|apply f_|apply g_|apply h_);first|omega|simp only[q_]<;>omega)|((with_reducible apply i_);first|omega|simp only[q_]<;>omega)|((with_reducible apply h_);first|decide|kernel_rfl)|refine s_ (by decide) ?_|refine t_ (by decide) ?_|with_reducible first|apply l_|apply m_|apply n_|apply o_|refine p_ (fun _=>?_) (fun _=>?_))<;>conv=>whnf));obtain⟨up,hup⟩:∃up,up=nodeF u at_:=⟨_,rfl⟩;obtain⟨n1,n2,n3⟩:=nodeF_spec u at_ (by omega);rw[<- hup] at n1;have sn:=s_nodeO hn hok P.length u (by rw[map_append];exact get_mid2 (by rw[length_map])) at_ (by omega) (by omega) (by omega);rw[<- hup] at sn;refine Smc.seq rfl ?_;((conv=>whnf);repeat' ((first|(with_reducible first|apply a_|apply b_|apply c_)|((with_reducible first|apply d_|apply e_|apply f_|apply g_|apply h_);first|omega|simp only[q_]<;>omega)|((with_reducible apply i_);first|omega|simp only[q_]<;>omega)|((with_reducible apply h_);first|decide|kernel_rfl)|refine s_ (by decide) ?_|refine t_ (by decide) ?_|with_reducible first|apply l_|apply m_|apply n_|apply o_|refine p_ (fun _=>?_) (fun _=>?_))<;>conv=>whnf));refine ro_k1 sn hn hHas (fun rf=>?_);((conv=>whnf);repeat' ((first|(with_reducible first|apply a_|apply b_|apply c_)|((with_reducible first|apply d_|apply e_|apply f_|apply g_|apply h_);first|omega|simp only[q_]<;>omega)|((with_reducible apply i_);first|omega|simp only[q_]<;>omega)|((with_reducible apply h_);first|decide|kernel_rfl)|refine s_ (by decide) ?_|refine t_ (by decide) ?_|with_reducible first|apply l_|apply m_|apply n_|apply o_|refine p_ (fun _=>?_) (fun _=>?_))<;>conv=>whnf));refine Smc.seq rfl ?_;((conv=>whnf);repeat' ((first|(with_reducible first|apply a_|apply b_|apply c_)|((with_reducible first|apply d_|apply e_|apply f_|apply g_|apply h_);first|omega|simp only[q_]<;>omega)|((with_reducible apply i_);first|omega|simp only[q_]<;>omega)|((with_reducible apply h_);first|decide|kernel_rfl)|refine s_ (by decide) ?_|refine t_ (by decide) ?_|with_reducible first|apply l_|apply m_|apply n_|apply o_|refine p_ (fun _=>?_) (fun _=>?_))<;>conv=>whnf));refine Smc.seq rfl ?_;have r1:((P++(900,u)::Q).map urow)[0+((P.length:Nat):Int).toNat]? = some [.arr 900 3 1 0 u.length]:=by
  rw[show 0+((P.length:Nat):Int).toNat=P.length by omega,map_append,map_cons];exact get_mid2 (by rw[length_map])
 ((conv=>whnf);repeat' ((first|(with_reducible first|apply a_|apply b_|apply c_)|((with_reducible first|apply d_|apply e_|apply f_|apply g_|apply h_);first|omega|simp only[q_]<;>omega)|((with_reducible apply i_);first|omega|simp only[q_]<;>omega)|((with_reducible apply h_);first|decide|kernel_rfl)|refine s_ (by decide) ?_|refine t_ (by decide) ?_|(refine Row.mk _ r1 ?_)|with_reducible first|apply l_|apply m_|apply n_|apply o_|refine p_ (fun _=>?_) (fun _=>?_))<;>conv=>whnf));have hfk:∀k∈[FK,FK1,FK2]++namesT es (P++(k1,u)::Q),k∈ksF [(900,k1)]:=fun k hk=>by
  rcases mem_append.1 hk with hk | hk
  ·exact mem_append_left _ hk
  ·exact mem_append_right _ (mem_append_right _ (hn.inn k hk))
 refine LoopC.mk Nat (fun i=>[(0,.d (.ptr FK 0)),(1,pInt .i64 P.length),(2,pInt .i64 at_),(6,pInt .i64 up),(7,pInt .i64 (((u.take i).sum:Nat) - 1)),(59,.d (.arr 900 3 1 0 (up+1))),(60,pInt .i64 ((up+1:Nat):Int)),(61,pInt .i64 i)])
  (fun _=>[(FK,.box 43 [.arr FK1 44 1 0 es.length,.arr FK2 61 1 0 (P.length+1+Q.length)]),(FK1,.darr 44 1 (es.map LE.row)),(FK2,.darr 61 1 ((P++(900,u)::Q).map urow)),(900,lvlH u)]++famT es (P++Q))
  (ksF [(900,k1)]) (fun i=>i<=up+1) (fun i=>up+1 - i) 0 (zero_le _) ?start ?round
 case start=>
  exact wk_keep hn _ rfl hfk hHas ⟨⟨rfl,rfl,rfl⟩,.inl rfl,.inl rfl,.inl rfl,PLe.int (by simp),⟨rfl,rfl,rfl,rfl,rfl,by omega⟩,PLe.int (by omega),.inl rfl,trivial⟩
 case round=>
  intro i hi;by_cases hlt:i<up+1
  ·have hiu:i<u.length:=by omega
   have r2:((u.map natC).map (List.map D.c))[0+((i:Nat):Int).toNat]? = some [.c (.v (.int .i64 (u[i]:Int)))]:=by
    rw[show 0+((i:Nat):Int).toNat=i by omega,List.getElem?_map,List.getElem?_map,List.getElem?_eq_getElem hiu];rfl
   have hs1:(u.take (i+1)).sum=(u.take i).sum+u[i]:=by rw[List.take_succ_eq_append_getElem hiu,sum_append,sum_singleton]
   have hs2:=sum_take_le u (i+1);have hs3:=hu _ (List.getElem_mem hiu);((conv=>whnf);repeat' ((first|(with_reducible first|apply a_|apply b_|apply c_)|((with_reducible first|apply d_|apply e_|apply f_|apply g_|apply h_);first|omega|simp only[q_]<;>omega)|((with_reducible apply i_);first|omega|simp only[q_]<;>omega)|((with_reducible apply h_);first|decide|kernel_rfl)|refine s_ (by decide) ?_|refine t_ (by decide) ?_|(refine Row.mk _ r2 ?_)|with_reducible first|apply l_|apply m_|apply n_|apply o_|refine p_ (fun _=>?_) (fun _=>?_))<;>conv=>whnf));exact⟨i+1,(show i+1<=up+1 by omega),(show up+1 - (i+1)<up+1 - i by omega),wk_keep hn _ rfl hfk hHas ⟨⟨rfl,rfl,rfl⟩,.inl rfl,.inl rfl,.inl rfl,PLe.int (by omega),⟨rfl,rfl,rfl,rfl,rfl,rfl⟩,.inl rfl,PLe.int (by push_cast;omega),trivial⟩⟩
  ·obtain rfl:i=up+1:=by omega
   ((conv=>whnf);repeat' ((first|(with_reducible first|apply a_|apply b_|apply c_)|((with_reducible first|apply d_|apply e_|apply f_|apply g_|apply h_);first|omega|simp only[q_]<;>omega)|((with_reducible apply i_);first|omega|simp only[q_]<;>omega)|((with_reducible apply h_);first|decide|kernel_rfl)|refine s_ (by decide) ?_|refine t_ (by decide) ?_|with_reducible first|apply l_|apply m_|apply n_|apply o_|refine p_ (fun _=>?_) (fun _=>?_))<;>conv=>whnf));refine Smc.seq rfl ?_;obtain⟨S,hS⟩:∃S,S=(u.take (up+1)).sum:=⟨_,rfl⟩;rw[<- hup] at n2 n3;rw[<- hS] at n3 ⊢;have hS2:=sum_take_le u (up+1);rw[<- hS] at hS2;have hsd:sideF u at_=if at_+1=S then at_ - 1 else at_+1:=by unfold sideF;rw[<- hup,<- hS]
   have hs1:at_+1=S->1<=at_:=fun e=>side_int (fun n hn=>(hu n hn).1) hat (by rw[e,hS,<- hup]);((conv=>whnf);repeat' ((first|(with_reducible first|apply a_|apply b_|apply c_)|((with_reducible first|apply d_|apply e_|apply f_|apply g_|apply h_);first|omega|simp only[q_]<;>omega)|((with_reducible apply i_);first|omega|simp only[q_]<;>omega)|((with_reducible apply h_);first|decide|kernel_rfl)|refine s_ (by decide) ?_|refine t_ (by decide) ?_|with_reducible first|apply l_|apply m_|apply n_|apply o_|refine p_ (fun _=>?_) (fun _=>?_))<;>conv=>whnf));obtain⟨sd,hsdd⟩:∃sd,sd=sideF u at_:=⟨_,rfl⟩;rw[<- hsdd] at hsd hsz2 h3 hh;refine Smc.via (le:=[(0,.d (.ptr FK 0)),(1,pInt .i64 P.length),(2,pInt .i64 at_),(6,pInt .i64 up),(10,pInt .i64 sd)])
    (lh:=[(FK,.box 43 [.arr FK1 44 1 0 es.length,.arr FK2 61 1 0 (P.length+1+Q.length)]),(FK1,.darr 44 1 (es.map LE.row)),(FK2,.darr 61 1 ((P++(900,u)::Q).map urow)),(900,lvlH u)]++famT es (P++Q)) (m:=ksF [(900,k1)]) (Smc.of rfl ?mid) ?_
   case mid=>
    by_cases hc:at_+1=S
    ·rw[if_pos hc] at hsd;have:=hs1 hc;((conv=>whnf);repeat' ((first|(with_reducible first|apply a_|apply b_|apply c_)|((with_reducible first|apply d_|apply e_|apply f_|apply g_|apply h_);first|omega|simp only[q_]<;>omega)|((with_reducible apply i_);first|omega|simp only[q_]<;>omega)|((with_reducible apply h_);first|decide|kernel_rfl)|refine s_ (by decide) ?_|refine t_ (by decide) ?_|with_reducible first|apply l_|apply m_|apply n_|apply o_|refine p_ (fun _=>?_) (fun _=>?_))<;>conv=>whnf));all_goals first|(exfalso;omega)|skip
     exact wk_keep hn _ rfl hfk hHas ⟨⟨rfl,rfl,rfl⟩,.inl rfl,.inl rfl,.inl rfl,PLe.int (by omega),trivial⟩
    ·rw[if_neg hc] at hsd;((conv=>whnf);repeat' ((first|(with_reducible first|apply a_|apply b_|apply c_)|((with_reducible first|apply d_|apply e_|apply f_|apply g_|apply h_);first|omega|simp only[q_]<;>omega)|((with_reducible apply i_);first|omega|simp only[q_]<;>omega)|((with_reducible apply h_);first|decide|kernel_rfl)|refine s_ (by decide) ?_|refine t_ (by decide) ?_|with_reducible first|apply l_|apply m_|apply n_|apply o_|refine p_ (fun _=>?_) (fun _=>?_))<;>conv=>whnf));all_goals first|(exfalso;omega)|skip
     exact wk_keep hn _ rfl hfk hHas ⟨⟨rfl,rfl,rfl⟩,.inl rfl,.inl rfl,.inl rfl,PLe.int (by omega),trivial⟩
   refine Smc.seq rfl ?_;((conv=>whnf);repeat' ((first|(with_reducible first|apply a_|apply b_|apply c_)|((with_reducible first|apply d_|apply e_|apply f_|apply g_|apply h_);first|omega|simp only[q_]<;>omega)|((with_reducible apply i_);first|omega|simp only[q_]<;>omega)|((with_reducible apply h_);first|decide|kernel_rfl)|refine s_ (by decide) ?_|refine t_ (by decide) ?_|with_reducible first|apply l_|apply m_|apply n_|apply o_|refine p_ (fun _=>?_) (fun _=>?_))<;>conv=>whnf));refine ro_k1 hsz2 hn hHas (fun rf=>?_);((conv=>whnf);repeat' ((first|(with_reducible first|apply a_|apply b_|apply c_)|((with_reducible first|apply d_|apply e_|apply f_|apply g_|apply h_);first|omega|simp only[q_]<;>omega)|((with_reducible apply i_);first|omega|simp only[q_]<;>omega)|((with_reducible apply h_);first|decide|kernel_rfl)|refine s_ (by decide) ?_|refine t_ (by decide) ?_|with_reducible first|apply l_|apply m_|apply n_|apply o_|refine p_ (fun _=>?_) (fun _=>?_))<;>conv=>whnf));have hk1:k1∈nT:=us_in hn (k1,u) (mem_append_right _ mem_cons_self);obtain⟨N,hN⟩:∃N,N=namesT es (P++(k1,u)::Q):=⟨_,rfl⟩;have hNn:∀k∈N,k∈nT:=fun k hk=>hn.inn k (by rw[hN] at hk;exact hk);refine tree_k1 hh hn hnH (fun y hy=>?_) hHas hN (fun δ rf hnew hout=>?_)
   ·simp only[mem_cons,not_mem_nil,or_false] at hy;rcases hy with rfl | rfl | rfl<;>exact⟨_,rfl⟩
   refine newP_of (hnew _ rfl rfl rfl) ?_;conv=>whnf
   refine addKs_of (fun ks'=>?_);((conv=>whnf);repeat' ((first|(with_reducible first|apply a_|apply b_|apply c_)|((with_reducible first|apply d_|apply e_|apply f_|apply g_|apply h_);first|omega|simp only[q_]<;>omega)|((with_reducible apply i_);first|omega|simp only[q_]<;>omega)|((with_reducible apply h_);first|decide|kernel_rfl)|refine s_ (by decide) ?_|refine t_ (by decide) ?_|with_reducible first|apply l_|apply m_|apply n_|apply o_|refine p_ (fun _=>?_) (fun _=>?_))<;>conv=>whnf));have hk1H:=nm_out hnH;have same:∀k,k∈namesT esH (PH++Q)->FX x N k=FX k1 N k:=fun k hk=>by
    have e1:k≠k1:=fun e=>hk1H (by rw[<- e];exact hk);have e2:k≠x:=fun e=>hxH (by
     rw[<- e];simp only[namesT,mem_append,map_append,map_cons,mem_cons] at hk ⊢;rcases hk with h | h | h
     ·exact .inl h
     ·exact .inr (.inl h)
     ·exact .inr (.inr (.inr h)))
    unfold FX;rw[if_neg e1,if_neg e2]
   have hn3:NmT esH (PH++(x,u)::Q):=nm_ren u hnH hx hxH;have eZ:esH.map (LE.mv (FX x N))=esH.map (LE.mv (FX k1 N)):=map_congr_left fun e he=>by
    show (⟨FX x N e.k,_,_,_⟩:LE)=⟨FX k1 N e.k,_,_,_⟩;rw[same _ (mem_append_left _ (mem_map.2 ⟨e,he,rfl⟩))]
   have eU:∀L:List UE,L.Sublist (PH++Q)->L.map (umv (FX x N))=L.map (umv (FX k1 N)):=fun L hL=>map_congr_left fun e he=>by
    show (FX x N e.1,e.2)=(FX k1 N e.1,e.2);rw[same _ (mem_append_right _ (mem_map.2 ⟨e,hL.subset he,rfl⟩))]
   have eY:(PH++(x,u)::Q).map (umv (FX x N))=(PH++(k1,u)::Q).map (umv (FX k1 N)):=by
    rw[map_append,map_append,map_cons,map_cons,eU PH (sublist_append_left _ _),eU Q (sublist_append_right _ _)];show _++(FX x N x,u)::_=_++(FX k1 N k1,u)::_;rw[FX_y,FX_y]
   have Ff:∀k,k=FK\/k=FK1\/k=FK2->FX x N k=k:=fun k hk=>by
    have hk:k=1000000\/k=1000001\/k=1000002:=hk;exact FX_f hx hNn (far_nT (by omega)) (by show k≠2000001;omega) (by show k≠2000002;omega)
   have okO:∀k∈[FK,NK1,NK2]++namesT esH (PH++(x,u)::Q),k∈[FK,FK1,FK2,NK1,NK2]\/k∈nT:=fun k hk=>by
    rcases mem_append.1 hk with hk | hk
    ·left;simp only[mem_cons,not_mem_nil,or_false] at hk ⊢;rcases hk with rfl | rfl | rfl<;>simp
    ·exact .inr (hn3.inn k hk)
   refine ret_has ([FK,FK1,FK2,NK1,NK2]++nT) (FX x N) (Ff _ (.inl rfl)) (us:=PH++(x,u)::Q) ?o1 (fun k hk=>?o2) (fun k hk=>?o3) ?o4 rfl
   case o1=>
    rw[FX_1 hx hNn,FX_2 hx hNn,eZ,eY];exact fun q hq=>hout _ q hq
   case o2=>
    rcases mem_append.1 hk with hk | hk
    ·simp only[mem_cons,not_mem_nil,or_false] at hk;exact⟨mem_append_left _ (by rcases hk with rfl | rfl | rfl<;>simp),Ff k hk⟩
    ·exact⟨mem_append_right _ (hn.inn k hk),FX_n (fun e=>hxn (by rw[<- e];exact hk)) (by rw[hN];exact hk)⟩
   case o3=>
    rcases mem_append.1 hk with hk | hk
    ·refine mem_append_left _ ?_;simp only[mem_cons,not_mem_nil,or_false] at hk ⊢;rcases hk with rfl | rfl | rfl<;>simp
    ·exact mem_append_right _ (hn3.inn k hk)
   case o4=>
    have h0:([FK,NK1,NK2]++namesT esH (PH++(x,u)::Q)).Nodup:=by
     have:=tIn_nd (b:=FK) (l:=NK1) (u:=NK2) rfl hn3
     rwa [tIn_keys] at this
    have h1:=nodup_map (F:=FX x N) h0 (fun a ha b hb e=>FX_inj hx hNn (okO a ha) (okO b hb) e);rw[map_append] at h1;have e:[FK,NK1,NK2].map (FX x N)=[FK,FX x N NK1,FX x N NK2]:=by
     show [FX x N FK,_,_]=_;rw[Ff FK (.inl rfl)]
    rwa [e] at h1
end
section
open Go.RowKit K
open Tr
namespace Tr
def FZ (y:Nat) (N:List Nat) (k:Nat):Nat:=if k=y then 900 else if k∈N then k else if k∈nT then k+20000 else if k=NK1 then 95 else if k=NK2 then 96 else if k=FK1 then 93 else if k=FK2 then 94 else k
theorem FZ_y (y:Nat) (N:List Nat):FZ y N y=900:=if_pos rfl
theorem FZ_n {y k:Nat} {N:List Nat} (h:k≠y) (hk:k∈N):FZ y N k=k:=by unfold FZ;rw[if_neg h,if_pos hk]
theorem FZ_new {y k:Nat} {N:List Nat} (h:k≠y) (hk:k∉N) (ht:k∈nT):FZ y N k=k+20000:=by unfold FZ;rw[if_neg h,if_neg hk,if_pos ht]
theorem FZ_f {y k:Nat} {N:List Nat} (hy:y∈nT) (hN:∀k∈N,k∈nT) (h1:k∉nT):FZ y N k=if k=NK1 then 95 else if k=NK2 then 96 else if k=FK1 then 93 else if k=FK2 then 94 else k:=by
 unfold FZ;rw[if_neg (fun e=>h1 (by rw[e];exact hy)),if_neg (fun e=>h1 (hN k e)),if_neg h1]
theorem FZ_val {y:Nat} {N:List Nat} (hy:y∈nT) (hN:∀k∈N,k∈nT) {k:Nat} (hk:k∈[FK,FK1,FK2,NK1,NK2]\/k∈nT) :
  (k=y/\FZ y N k=900)\/(k≠y/\1000<=k/\k<7000/\(FZ y N k=k\/FZ y N k=k+20000)/\(FZ y N k=k↔k∈N))\/(k=NK1/\FZ y N k=95)\/(k=NK2/\FZ y N k=96)\/(k=FK1/\FZ y N k=93)\/(k=FK2/\FZ y N k=94)\/(k=FK/\FZ y N k=1000000):=by
 rcases hk with hk | hk
 ·simp only[mem_cons,not_mem_nil,or_false] at hk;rcases hk with rfl | rfl | rfl | rfl | rfl
  ·exact .inr (.inr (.inr (.inr (.inr (.inr ⟨rfl,(FZ_f hy hN (far_nT (by decide))).trans rfl⟩)))))
  ·exact .inr (.inr (.inr (.inr (.inl ⟨rfl,(FZ_f hy hN (far_nT (by decide))).trans rfl⟩))))
  ·exact .inr (.inr (.inr (.inr (.inr (.inl ⟨rfl,(FZ_f hy hN (far_nT (by decide))).trans rfl⟩)))))
  ·exact .inr (.inr (.inl ⟨rfl,(FZ_f hy hN (far_nT (by decide))).trans rfl⟩))
  ·exact .inr (.inr (.inr (.inl ⟨rfl,(FZ_f hy hN (far_nT (by decide))).trans rfl⟩)))
 ·have hb:=nT_big k hk;by_cases h1:k=y
  ·exact .inl ⟨h1,by rw[h1];exact FZ_y y N⟩
  ·by_cases h2:k∈N
   ·exact .inr (.inl ⟨h1,hb.1,hb.2,.inl (FZ_n h1 h2),⟨fun _=>h2,fun _=>FZ_n h1 h2⟩⟩)
   ·exact .inr (.inl ⟨h1,hb.1,hb.2,.inr (FZ_new h1 h2 hk),⟨fun e=>by rw[FZ_new h1 h2 hk] at e;omega,fun e=>absurd e h2⟩⟩)
theorem FZ_inj {y:Nat} {N:List Nat} (hy:y∈nT) (hN:∀k∈N,k∈nT) {a b:Nat} (ha:a∈[FK,FK1,FK2,NK1,NK2]\/a∈nT) (hb:b∈[FK,FK1,FK2,NK1,NK2]\/b∈nT) (e:FZ y N a=FZ y N b):a=b:=by
 rcases FZ_val hy hN ha with ⟨a1,a2⟩ | ⟨a1,a2,a3,a4,_⟩ | ⟨a1,a2⟩ | ⟨a1,a2⟩ | ⟨a1,a2⟩ | ⟨a1,a2⟩ | ⟨a1,a2⟩<;>rcases FZ_val hy hN hb with ⟨b1,b2⟩ | ⟨b1,b2,b3,b4,_⟩ | ⟨b1,b2⟩ | ⟨b1,b2⟩ | ⟨b1,b2⟩ | ⟨b1,b2⟩ | ⟨b1,b2⟩<;>omega
theorem tree_x {P0:Program} {f:FuncId} {args:List PV} {h:Hp} {K:OpK} {X:Value->Hp->Prop} {esJ esR:List LE} {PJ Q usR:List UE} {x:Nat} {u:List Nat} (hs:CallS P0 f (.d (.ptr FK 0)::args) [] (tIn esJ (PJ++(x,u)::Q)) (.tup []) (tOut esR usR))
  (hn:NmT esJ (PJ++(x,u)::Q)) (hnR:NmT esR usR) (ha:∀x∈args,∃n,x=pInt .i64 n) (hh:Has h FK 93 94 esJ (PJ++(900,u)::Q)) {N:List Nat} (hN:N=namesT esJ (PJ++Q))
  (hk:∀(δ:Dl) (rf:Rf),(∀ks:List Nat,(ks.all fun x=>Nat.blt x 13000||Nat.ble 1000000 x)=true->ksHas 95 ks=false->ksHas 96 ks=false->∀p∈δ,rfHas p.1 rf=true\/ksHas p.1 ks=false)->
   (∀h,Has (Dl.app h δ) FK 95 96 (esR.map (LE.mv (FZ x N))) (usR.map (umv (FZ x N))))->K (.tup []) δ rf):CallP P0 f (.d (.ptr FK 0)::args) h K X:=by
 have hk1:x∈nT:=us_in hn (x,u) (mem_append_right _ mem_cons_self);have hk1n:=nm_out hn;have hnP:NmT esJ (PJ++Q):=nm_sub hn (List.Sublist.refl _) ((List.Sublist.refl PJ).append (sublist_cons_self _ _));have hNn:∀k∈N,k∈nT:=fun k hk=>hnP.inn k (by rw[hN] at hk;exact hk);have hsub:∀k∈namesT esJ (PJ++Q),k∈N/\k≠x:=fun k hk=>⟨by rw[hN];exact hk,fun e=>hk1n (by rw[<- e];exact hk)⟩;obtain⟨F,hF⟩:∃F,F=FZ x N:=⟨_,rfl⟩;have F0:F FK=FK:=by rw[hF];exact (FZ_f hk1 hNn (far_nT (by decide))).trans rfl
 have Fa:F FK1=93:=by rw[hF];exact (FZ_f hk1 hNn (far_nT (by decide))).trans rfl
 have Fb:F FK2=94:=by rw[hF];exact (FZ_f hk1 hNn (far_nT (by decide))).trans rfl
 have F1:F NK1=95:=by rw[hF];exact (FZ_f hk1 hNn (far_nT (by decide))).trans rfl
 have F2:F NK2=96:=by rw[hF];exact (FZ_f hk1 hNn (far_nT (by decide))).trans rfl
 have Fk:F x=900:=by rw[hF];exact FZ_y _ _
 have Fn:∀k∈namesT esJ (PJ++Q),F k=k:=fun k hk=>by rw[hF];exact FZ_n (hsub k hk).2 (hsub k hk).1
 have ge:esJ.map (LE.mv F)=esJ:=mv_same fun e he=>Fn _ (mem_append_left _ (mem_map.2 ⟨e,he,rfl⟩));have gu:(PJ++(x,u)::Q).map (umv F)=PJ++(900,u)::Q:=by
  rw[map_append,map_cons,umv_same fun p hp=>Fn _ (mem_append_right _ (mem_map.2 ⟨p,mem_append_left _ hp,rfl⟩)),umv_same fun p hp=>Fn _ (mem_append_right _ (mem_map.2 ⟨p,mem_append_right _ hp,rfl⟩))];show PJ++(F x,u)::Q=_;rw[Fk]
 obtain⟨Z,hZ⟩:∃Z,Z=esR.map (LE.mv F):=⟨_,rfl⟩;obtain⟨Y,hY⟩:∃Y,Y=usR.map (umv F):=⟨_,rfl⟩;have hZY:namesT Z Y=(namesT esR usR).map F:=by rw[hZ,hY,names_mv]
 have okH:∀k∈[FK,FK1,FK2,NK1,NK2]++(namesT esJ (PJ++(x,u)::Q)++namesT esR usR),k∈[FK,FK1,FK2,NK1,NK2]\/k∈nT:=fun k hk=>by
  rcases mem_append.1 hk with hk | hk
  ·exact .inl hk
  ·rcases mem_append.1 hk with hk | hk
   ·exact .inr (hn.inn k hk)
   ·exact .inr (hnR.inn k hk)
 have hYd:((nearT FK 95 96 Z Y++famT Z Y).map Prod.fst).Nodup:=by
  rw[tIn_keys,hZY];have h0:([FK,NK1,NK2]++namesT esR usR).Nodup:=by
   have:=tIn_nd (b:=FK) (l:=NK1) (u:=NK2) rfl hnR
   rwa [tIn_keys] at this
  have okO:∀k∈[FK,NK1,NK2]++namesT esR usR,k∈[FK,FK1,FK2,NK1,NK2]\/k∈nT:=fun k hk=>by
   rcases mem_append.1 hk with hk | hk
   ·left;simp only[mem_cons,not_mem_nil,or_false] at hk ⊢;rcases hk with rfl | rfl | rfl<;>simp
   ·exact .inr (hnR.inn k hk)
  have h1:=nodup_map (F:=F) h0 (fun a ha b hb e=>FZ_inj hk1 hNn (okO a ha) (okO b hb) (by rw[<- hF];exact e));rw[map_append] at h1;have e:[FK,NK1,NK2].map F=[FK,95,96]:=by
   show [F FK,F NK1,F NK2]=_;rw[F0,F1,F2]
  rwa [e] at h1
 refine call_tree hs F hn hnR (fun a ha b hb e=>FZ_inj hk1 hNn (okH a ha) (okH b hb) (by rw[<- hF];exact e)) (fun x hx=>?_) trivial ?_ ?_ ?_
 ·rcases mem_cons.1 hx with rfl | hx
  ·rfl
  ·obtain⟨n,rfl⟩:=ha x hx;trivial
 ·rw[map_cons]
  congr 1
  ·show PV.d (.ptr (F FK) 0)=_;rw[F0]
  ·conv=>rhs;rw[<- map_id args]
   refine map_congr_left fun x hx=>?_;obtain⟨n,rfl⟩:=ha x hx;rfl
 ·rw[F0,Fa,Fb,ge,gu];exact hh
 ·rw[F0,Fa,Fb,F1,F2,ge,gu,<- hZ,<- hY];refine hk _ _ (fun ks hks h93 h94 p hp=>?_) (fun h=>?_)
  ·unfold deltaOf at hp;rcases mem_append.1 hp with hp | hp
   ·obtain⟨q,hq,rfl⟩:=mem_map.1 hp;exact .inl (rfHas_of (mem_map.2 ⟨q,hq,rfl⟩))
   ·obtain⟨q,hq,rfl⟩:=mem_map.1 hp;have hqk:q.1∈[FK,95,96]++namesT Z Y:=by rw[<- tIn_keys];exact mem_map.2 ⟨q,hq,rfl⟩
    have hA:∀k∈[FK,93,94]++namesT esJ (PJ++(900,u)::Q),rfHas k (nearT FK 93 94 esJ (PJ++(900,u)::Q)++famT esJ (PJ++(900,u)::Q))=true:=fun k hk=>rfHas_of (by rw[tIn_keys];exact hk);show rfHas q.1 _=true\/ksHas q.1 ks=false;rcases mem_append.1 hqk with hk | hk
    ·simp only[mem_cons,not_mem_nil,or_false] at hk;rcases hk with e | e | e
     ·rw[e];exact .inl (hA FK (by simp))
     ·rw[e];exact .inr h93
     ·rw[e];exact .inr h94
    ·rw[hZY] at hk;obtain⟨y,hy,e⟩:=mem_map.1 hk;have hyb:=nT_big y (hnR.inn y hy);rcases FZ_val (N:=N) hk1 hNn (.inr (hnR.inn y hy)) with ⟨b1,b2⟩ | ⟨b1,b2,b3,b4,b5⟩ | ⟨b1,b2⟩ | ⟨b1,b2⟩ | ⟨b1,b2⟩ | ⟨b1,b2⟩ | ⟨b1,b2⟩
     ·left;rw[<- e,hF,b2];exact hA 900 (mem_append_right _ (by simp[namesT]))
     ·rcases b4 with b4 | b4
      ·left;rw[<- e,hF,b4];have hyN:=b5.1 b4;rw[hN] at hyN;refine hA y (mem_append_right _ ?_);simp only[namesT,mem_append,map_append,map_cons,mem_cons] at hyN ⊢;rcases hyN with h | h | h
       ·exact .inl h
       ·exact .inr (.inl h)
       ·exact .inr (.inr (.inr h))
      ·right;rw[<- e,hF,b4];exact ksHas_far (by omega) (by omega) hks
     ·have h1:NK1=2000001:=rfl;omega
     ·have h1:NK2=2000002:=rfl;omega
     ·have h1:FK1=1000001:=rfl;omega
     ·have h1:FK2=1000002:=rfl;omega
     ·have h1:FK=1000000:=rfl;omega
  ·rw[<- hF,<- hZ,<- hY];exact fun q hq=>delta_out hYd hq
end Tr
end
end Go.Proofs.Ytdjbckknghddpaa.Pm
