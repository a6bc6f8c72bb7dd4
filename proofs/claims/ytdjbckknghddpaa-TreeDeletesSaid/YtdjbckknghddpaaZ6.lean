/- Parts of the proof, one behind the other: PtStd PmClone PtClone PtOwn PtTree PtTree2 PtSplit. Conditions: none beyond what each theorem says. -/
import Derived.Test.YtdjbckknghddpaaZ5
open List (all_cons all_eq_true append_assoc cons_append cons_ne_nil count_append count_cons count_nil drop_of_length_le drop_zero length_append length_cons length_drop length_map length_nil length_set length_take map_append map_congr_left map_cons map_drop map_id map_map map_nil map_take mem_append mem_append_left mem_append_right mem_cons mem_cons_of_mem mem_cons_self mem_map mem_of_mem_drop mem_of_mem_take mem_range mem_singleton nil_append nodup_append nodup_cons not_mem_nil pairwise_singleton perm_iff_count set_append_right sublist_append_left sublist_cons_self take_append_of_le_length take_length take_of_length_le take_set_of_le take_take take_zero)
open Nat (add_zero beq_refl eq_of_beq_eq_true le_of_ble_eq_true min_eq_left sub_self sub_zero zero_add zero_le)
open Int (toNat_natCast toNat_zero)
open Option (getD_some)
set_option linter.unusedVariables false
set_option linter.unusedSimpArgs false
set_option maxRecDepth 100000
namespace Go.Proofs.Ytdjbckknghddpaa.Pm
section
open Go.RowKit K
open Tr
theorem del_rows {α:Type} (rows:List α) {i:Nat} (hi:i<rows.length):(rows.take i++(rows.drop (i+1)).take (rows.length - (i+1))++rows.drop (i+((rows.drop (i+1)).take (rows.length - (i+1))).length)).take (i+(rows.length - (i+1)))=rows.take i++rows.drop (i+1):=by
 have e:(rows.drop (i+1)).take (rows.length - (i+1))=rows.drop (i+1):=take_of_length_le (by rw[length_drop];omega);rw[e,take_append_of_le_length (by rw[length_append,length_take,length_drop];omega),take_of_length_le (by rw[length_append,length_take,length_drop];omega)]
theorem hon_sub {p:Nat->Prop} {e sz:Nat} {rows rows':List (List D)} (h:hon p (.darr e sz rows)) (hs:∀r∈rows',r∈rows):hon p (.darr e sz rows'):=fun r hr=>h r (hs r hr)
theorem hon_put {p:Nat->Prop} {e sz i j:Nat} {rows v:List (List D)} (h:hon p (.darr e sz rows)) (hv:hon p (.darr e sz v)):hon p (.darr e sz (rows.take i++v++rows.drop j)):=fun r hr=>by
 rcases mem_append.1 hr with hr | hr
 ·rcases mem_append.1 hr with hr | hr
  ·exact h r (mem_of_mem_take hr)
  ·exact hv r hr
 ·exact h r (mem_of_mem_drop hr)
theorem hon_cs (p:Nat->Prop) (e sz:Nat) (l:List (List C)):hon p (.darr e sz (l.map (List.map D.c))):=fun r hr x hx=>by
 obtain⟨r0,_,rfl⟩:=mem_map.1 hr;obtain⟨x0,_,rfl⟩:=mem_map.1 hx;trivial
theorem del_sub {α:Type} {rows:List α} {i:Nat}:∀r∈rows.take i++rows.drop (i+1),r∈rows:=fun r hr=>by
 rcases mem_append.1 hr with hr | hr
 ·exact mem_of_mem_take hr
 ·exact mem_of_mem_drop hr
theorem rep1 (rows v:List (List D)) {i j:Nat} (hj:rows.length<=j) (hv:j<=i+v.length):putRows rows i v=rows.take i++v++rows.drop j:=by
 unfold putRows;rw[drop_of_length_le (show rows.length<=i+v.length by omega),drop_of_length_le hj]
theorem rep1' (rows v:List (List D)) {i j:Nat} (hj:rows.length<=j):rows.take i++v=rows.take i++v++rows.drop j:=by
 rw[drop_of_length_le hj,List.append_nil]
theorem rep2 (rows v:List (List D)) {i j:Nat} (hi:i<=rows.length) (hj:j<=rows.length):putRows (putRows (rows.take i) i v) (i+v.length) ((rows.drop j).take (rows.length - j))=rows.take i++v++rows.drop j:=by
 have e:(rows.drop j).take (rows.length - j)=rows.drop j:=take_of_length_le (by rw[length_drop];omega);have e1:putRows (rows.take i) i v=rows.take i++v:=by
  unfold putRows;rw[take_take,Nat.min_self,drop_of_length_le (l:=rows.take i) (by rw[length_take];omega),List.append_nil]
 have hl:(rows.take i++v).length=i+v.length:=by rw[length_append,length_take];omega
 rw[e,e1];unfold putRows;rw[take_of_length_le (by omega),drop_of_length_le (l:=rows.take i++v) (by omega),List.append_nil]
theorem rep3 (rows v:List (List D)) {i j:Nat} (hi:i+v.length<=rows.length) (hj:j<=rows.length) (hv:j<=i+v.length):putRows (putRows rows (i+v.length) ((rows.drop j).take (rows.length - j))) i v=rows.take i++v++rows.drop j:=by
 have e:(rows.drop j).take (rows.length - j)=rows.drop j:=take_of_length_le (by rw[length_drop];omega);have e1:putRows rows (i+v.length) (rows.drop j)=rows.take (i+v.length)++rows.drop j:=by
  unfold putRows;rw[drop_of_length_le (l:=rows) (i:=i+v.length+(rows.drop j).length) (by rw[length_drop];omega),List.append_nil]
 have hl:(rows.take (i+v.length)).length=i+v.length:=by rw[length_take];omega
 rw[e,e1];unfold putRows;rw[take_append_of_le_length (by omega),take_take,min_eq_left (by omega),List.drop_append_of_le_length (by omega),drop_of_length_le (by omega),nil_append]
theorem s_del_int (rows:List (List D)) (i:Nat) (hi:i<rows.length) (hm:rows.length<=1000) (hrw:hon (·∈nT) (.darr 3 1 rows)) (R:Rf) (hR:Fam R) :
  CallS Try.prog 72 [.d (.arr FK 3 1 0 rows.length),pInt .i64 i,pInt .i64 ((i+1:Nat):Int)] R [(FK,.darr 3 1 rows)] (.d (.arr NK 3 1 0 (rows.length - 1))) [(NK,.darr 3 1 (rows.take i++rows.drop (i+1)))]:=by
 refine CallS.full (by omega) fun c hc=>?_;refine callS_in Try.func72 (by rfl) rfl (by kernel_rfl) (by rfl) ([FK]++nT) (fun k hk=>?_) ?_
 ·rw[map_append] at hk;rcases mem_append.1 hk with hk | hk
  ·exact mem_append_right _ (hR.key k hk)
  ·exact mem_append_left _ hk
 rw[hR.swap rfl];((conv=>whnf);repeat' ((first|(with_reducible first|apply a_|apply b_|apply c_)|((with_reducible first|apply d_|apply e_|apply f_|apply g_|apply h_);first|omega|simp only[q_]<;>omega)|((with_reducible apply i_);first|omega|simp only[q_]<;>omega)|((with_reducible apply h_);first|decide|kernel_rfl)|refine s_ (by decide) ?_|refine t_ (by decide) ?_|with_reducible first|apply l_|apply m_|apply n_|apply o_|refine p_ (fun _=>?_) (fun _=>?_))<;>conv=>whnf));refine Need.by3 8 rfl (by dsimp only;omega) ?_;((conv=>whnf);repeat' ((first|(with_reducible first|apply a_|apply b_|apply c_)|((with_reducible first|apply d_|apply e_|apply f_|apply g_|apply h_);first|omega|simp only[q_]<;>omega)|((with_reducible apply i_);first|omega|simp only[q_]<;>omega)|((with_reducible apply h_);first|decide|kernel_rfl)|refine s_ (by decide) ?_|refine t_ (by decide) ?_|(refine CapC.mk (fun room=>?_) (fun grow=>absurd grow (by dsimp only;omega)))|with_reducible first|apply l_|apply m_|apply n_|apply o_|refine p_ (fun _=>?_) (fun _=>?_))<;>conv=>whnf));refine ret_fam hR [FK] [(NK,FK)] rfl (fun q hq=>?_) ⟨⟨_,rfl,?_⟩,trivial⟩ ?_
 ·have hk:=(hR.keys q hq).1;repeat (first|exact hR.past (a:=[(FK,_)]) rfl hq|refine app_fam rfl hk ?_)
 ·refine hle_rows rfl ?_ (hon_sub hrw del_sub);simp only[toNat_natCast,toNat_zero,zero_add,sub_zero,drop_zero,take_zero];exact del_rows rows hi
 ·exact⟨rfl,rfl,rfl,rfl,rfl,by simp only[toNat_natCast,toNat_zero,zero_add,sub_zero,drop_zero,take_zero];omega⟩
theorem s_del_pair (rows:List (List D)) (i:Nat) (hi:i<rows.length) (hm:rows.length<=1000) (hrw:hon (·∈nT) (.darr 41 2 rows)) (R:Rf) (hR:Fam R) :
  CallS Try.prog 30 [.d (.arr FK 41 2 0 rows.length),pInt .i64 i,pInt .i64 ((i+1:Nat):Int)] R [(FK,.darr 41 2 rows)] (.d (.arr NK 41 2 0 (rows.length - 1))) [(NK,.darr 41 2 (rows.take i++rows.drop (i+1)))]:=by
 refine CallS.full (by omega) fun c hc=>?_;refine callS_in Try.func30 (by rfl) rfl (by kernel_rfl) (by rfl) ([FK]++nT) (fun k hk=>?_) ?_
 ·rw[map_append] at hk;rcases mem_append.1 hk with hk | hk
  ·exact mem_append_right _ (hR.key k hk)
  ·exact mem_append_left _ hk
 rw[hR.swap rfl];((conv=>whnf);repeat' ((first|(with_reducible first|apply a_|apply b_|apply c_)|((with_reducible first|apply d_|apply e_|apply f_|apply g_|apply h_);first|omega|simp only[q_]<;>omega)|((with_reducible apply i_);first|omega|simp only[q_]<;>omega)|((with_reducible apply h_);first|decide|kernel_rfl)|refine s_ (by decide) ?_|refine t_ (by decide) ?_|with_reducible first|apply l_|apply m_|apply n_|apply o_|refine p_ (fun _=>?_) (fun _=>?_))<;>conv=>whnf));refine Need.by3 24 rfl (by dsimp only;omega) ?_;((conv=>whnf);repeat' ((first|(with_reducible first|apply a_|apply b_|apply c_)|((with_reducible first|apply d_|apply e_|apply f_|apply g_|apply h_);first|omega|simp only[q_]<;>omega)|((with_reducible apply i_);first|omega|simp only[q_]<;>omega)|((with_reducible apply h_);first|decide|kernel_rfl)|refine s_ (by decide) ?_|refine t_ (by decide) ?_|(refine CapC.mk (fun room=>?_) (fun grow=>absurd grow (by dsimp only;omega)))|with_reducible first|apply l_|apply m_|apply n_|apply o_|refine p_ (fun _=>?_) (fun _=>?_))<;>conv=>whnf));refine ret_fam hR [FK] [(NK,FK)] rfl (fun q hq=>?_) ⟨⟨_,rfl,?_⟩,trivial⟩ ?_
 ·have hk:=(hR.keys q hq).1;repeat (first|exact hR.past (a:=[(FK,_)]) rfl hq|refine app_fam rfl hk ?_)
 ·refine hle_rows rfl ?_ (hon_sub hrw del_sub);simp only[toNat_natCast,toNat_zero,zero_add,sub_zero,drop_zero,take_zero];exact del_rows rows hi
 ·exact⟨rfl,rfl,rfl,rfl,rfl,by simp only[toNat_natCast,toNat_zero,zero_add,sub_zero,drop_zero,take_zero];omega⟩
theorem s_del_leaf (rows:List (List D)) (i:Nat) (hi:i<rows.length) (hm:rows.length<=1000) (hrw:hon (·∈nT) (.darr 44 1 rows)) (R:Rf) (hR:Fam R) :
  CallS Try.prog 71 [.d (.arr FK 44 1 0 rows.length),pInt .i64 i,pInt .i64 ((i+1:Nat):Int)] R [(FK,.darr 44 1 rows)] (.d (.arr NK 44 1 0 (rows.length - 1))) [(NK,.darr 44 1 (rows.take i++rows.drop (i+1)))]:=by
 refine CallS.full (by omega) fun c hc=>?_;refine callS_in Try.func71 (by rfl) rfl (by kernel_rfl) (by rfl) ([FK]++nT) (fun k hk=>?_) ?_
 ·rw[map_append] at hk;rcases mem_append.1 hk with hk | hk
  ·exact mem_append_right _ (hR.key k hk)
  ·exact mem_append_left _ hk
 rw[hR.swap rfl];((conv=>whnf);repeat' ((first|(with_reducible first|apply a_|apply b_|apply c_)|((with_reducible first|apply d_|apply e_|apply f_|apply g_|apply h_);first|omega|simp only[q_]<;>omega)|((with_reducible apply i_);first|omega|simp only[q_]<;>omega)|((with_reducible apply h_);first|decide|kernel_rfl)|refine s_ (by decide) ?_|refine t_ (by decide) ?_|with_reducible first|apply l_|apply m_|apply n_|apply o_|refine p_ (fun _=>?_) (fun _=>?_))<;>conv=>whnf));refine Need.by3 24 rfl (by dsimp only;omega) ?_;((conv=>whnf);repeat' ((first|(with_reducible first|apply a_|apply b_|apply c_)|((with_reducible first|apply d_|apply e_|apply f_|apply g_|apply h_);first|omega|simp only[q_]<;>omega)|((with_reducible apply i_);first|omega|simp only[q_]<;>omega)|((with_reducible apply h_);first|decide|kernel_rfl)|refine s_ (by decide) ?_|refine t_ (by decide) ?_|(refine CapC.mk (fun room=>?_) (fun grow=>absurd grow (by dsimp only;omega)))|with_reducible first|apply l_|apply m_|apply n_|apply o_|refine p_ (fun _=>?_) (fun _=>?_))<;>conv=>whnf));refine ret_fam hR [FK] [(NK,FK)] rfl (fun q hq=>?_) ⟨⟨_,rfl,?_⟩,trivial⟩ ?_
 ·have hk:=(hR.keys q hq).1;repeat (first|exact hR.past (a:=[(FK,_)]) rfl hq|refine app_fam rfl hk ?_)
 ·refine hle_rows rfl ?_ (hon_sub hrw del_sub);simp only[toNat_natCast,toNat_zero,zero_add,sub_zero,drop_zero,take_zero];exact del_rows rows hi
 ·exact⟨rfl,rfl,rfl,rfl,rfl,by simp only[toNat_natCast,toNat_zero,zero_add,sub_zero,drop_zero,take_zero];omega⟩
theorem ov_int:ovlX Try.prog 65:=⟨_,61,4,3,_,Try.func65,by kernel_rfl,by kernel_rfl,by kernel_rfl,by kernel_rfl,by rfl,by rfl⟩
theorem ov_pair:ovlX Try.prog 42:=⟨_,44,4,41,_,Try.func42,by kernel_rfl,by kernel_rfl,by kernel_rfl,by kernel_rfl,by rfl,by rfl⟩
theorem ov_leaf:ovlX Try.prog 61:=⟨_,22,4,44,_,Try.func61,by kernel_rfl,by kernel_rfl,by kernel_rfl,by kernel_rfl,by rfl,by rfl⟩
theorem s_rep_int (rows:List (List D)) (i:Nat) (hi:i<rows.length) (hm:rows.length<=1000) (hrw:hon (·∈nT) (.darr 3 1 rows)) (a b:List D) (hv:hon (·∈nT) (.darr 3 1 [a,b])) (R:Rf) (hR:Fam R) :
  CallS Try.prog 45 [.d (.arr FK 3 1 0 rows.length),pInt .i64 i,pInt .i64 ((i+1:Nat):Int),.d (.arr FK1 3 1 0 2)] R [(FK,.darr 3 1 rows),(FK1,.darr 3 1 [a,b])] (.d (.arr NK 3 1 0 (rows.length+1)))
   [(NK,.darr 3 1 (rows.take i++[a,b]++rows.drop (i+1)))]:=by
 refine CallS.full (by omega) fun c hc=>?_;refine callS_in Try.func45 (by rfl) rfl (by kernel_rfl) (by rfl) ([FK,FK1]++nT) (fun k hk=>?_) ?_
 ·rw[map_append] at hk;rcases mem_append.1 hk with hk | hk
  ·exact mem_append_right _ (hR.key k hk)
  ·exact mem_append_left _ hk
 rw[hR.swap rfl];((conv=>whnf);repeat' ((first|(with_reducible first|apply a_|apply b_|apply c_)|((with_reducible first|apply d_|apply e_|apply f_|apply g_|apply h_);first|omega|simp only[q_]<;>omega)|((with_reducible apply i_);first|omega|simp only[q_]<;>omega)|((with_reducible apply h_);first|decide|kernel_rfl)|refine s_ (by decide) ?_|refine t_ (by decide) ?_|with_reducible first|apply l_|apply m_|apply n_|apply o_|refine p_ (fun _=>?_) (fun _=>?_))<;>conv=>whnf))
 ·refine Need.by3 8 rfl (by (try dsimp only);(try simp only[putRows,length_append,length_map,length_cons,length_nil,length_take,length_drop,toNat_natCast,toNat_zero,zero_add,sub_zero,add_zero]);omega) ?_;refine CapC.mk (fun room=>?_) (fun grow=>?_)
  ·((conv=>whnf);repeat' ((first|(with_reducible first|apply a_|apply b_|apply c_)|((with_reducible first|apply d_|apply e_|apply f_|apply g_|apply h_);first|omega|simp only[q_]<;>omega)|((with_reducible apply i_);first|omega|simp only[q_]<;>omega)|((with_reducible apply h_);first|decide|kernel_rfl)|refine s_ (by decide) ?_|refine t_ (by decide) ?_|with_reducible first|apply l_|apply m_|apply n_|apply o_|refine p_ (fun _=>?_) (fun _=>?_))<;>conv=>whnf));refine ret_fam hR [FK,FK1] [(NK,FK)] rfl (fun q hq=>?_) ⟨⟨_,rfl,?_⟩,trivial⟩ ?_
   ·have hk:=(hR.keys q hq).1;repeat (first|exact hR.past (a:=[(FK,_),(FK1,_)]) rfl hq|refine app_fam rfl hk ?_)
   ·refine hle_rows rfl ?_ (hon_put hrw hv);simp only[toNat_natCast,toNat_zero,zero_add,sub_zero,drop_zero,take_zero];exact rep1 rows [a,b] (j:=i+1) (by omega) (by show _<=_+2;omega)
   ·exact⟨rfl,rfl,rfl,rfl,rfl,by first|rfl | ((try dsimp only);simp only[toNat_natCast,toNat_zero,zero_add,sub_zero,drop_zero,take_zero]<;>omega)⟩
  ·((conv=>whnf);repeat' ((first|(with_reducible first|apply a_|apply b_|apply c_)|((with_reducible first|apply d_|apply e_|apply f_|apply g_|apply h_);first|omega|simp only[q_]<;>omega)|((with_reducible apply i_);first|omega|simp only[q_]<;>omega)|((with_reducible apply h_);first|decide|kernel_rfl)|refine s_ (by decide) ?_|refine t_ (by decide) ?_|with_reducible first|apply l_|apply m_|apply n_|apply o_|refine p_ (fun _=>?_) (fun _=>?_))<;>conv=>whnf));refine ret_fam hR [FK,FK1] [(NK,34)] rfl (fun q hq=>?_) ⟨⟨_,rfl,?_⟩,trivial⟩ ?_
   ·have hk:=(hR.keys q hq).1;repeat (first|exact hR.past (a:=[(FK,_),(FK1,_)]) rfl hq|refine app_fam rfl hk ?_)
   ·refine hle_rows rfl ?_ (hon_put hrw hv);simp only[toNat_natCast,toNat_zero,zero_add,sub_zero,drop_zero,take_zero];exact rep1' rows [a,b] (j:=i+1) (by omega)
   ·exact⟨rfl,rfl,rfl,rfl,rfl,by first|rfl | ((try dsimp only);simp only[toNat_natCast,toNat_zero,zero_add,sub_zero,drop_zero,take_zero]<;>omega)⟩
 ·refine Need.by4 8 rfl (by (try dsimp only at *);(try simp only[putRows,length_append,length_map,length_cons,length_nil,length_take,length_drop,toNat_natCast,toNat_zero,zero_add,sub_zero,add_zero] at *);omega) ?_;((conv=>whnf);repeat' ((first|(with_reducible first|apply a_|apply b_|apply c_)|((with_reducible first|apply d_|apply e_|apply f_|apply g_|apply h_);first|omega|simp only[q_]<;>omega)|((with_reducible apply i_);first|omega|simp only[q_]<;>omega)|((with_reducible apply h_);first|decide|kernel_rfl)|refine s_ (by decide) ?_|refine t_ (by decide) ?_|with_reducible first|apply l_|apply m_|apply n_|apply o_|refine p_ (fun _=>?_) (fun _=>?_))<;>conv=>whnf));refine CopyC.mk 2 ⟨(by (try dsimp only at *);(try simp only[putRows,length_append,length_map,length_cons,length_nil,length_take,length_drop,toNat_natCast,toNat_zero,zero_add,sub_zero,add_zero] at *);omega),(by (try dsimp only at *);(try simp only[putRows,length_append,length_map,length_cons,length_nil,length_take,length_drop,toNat_natCast,toNat_zero,zero_add,sub_zero,add_zero] at *);omega),(by first|exact .inr rfl|exact .inl rfl | (refine .inr ?_;trace_state;omega))⟩ (Need.mk ⟨(by (try dsimp only at *);(try simp only[putRows,length_append,length_map,length_cons,length_nil,length_take,length_drop,toNat_natCast,toNat_zero,zero_add,sub_zero,add_zero] at *);omega),(by (try dsimp only at *);(try simp only[putRows,length_append,length_map,length_cons,length_nil,length_take,length_drop,toNat_natCast,toNat_zero,zero_add,sub_zero,add_zero] at *);omega)⟩ ?_);((conv=>whnf);repeat' ((first|(with_reducible first|apply a_|apply b_|apply c_)|((with_reducible first|apply d_|apply e_|apply f_|apply g_|apply h_);first|omega|simp only[q_]<;>omega)|((with_reducible apply i_);first|omega|simp only[q_]<;>omega)|((with_reducible apply h_);first|decide|kernel_rfl)|refine s_ (by decide) ?_|refine t_ (by decide) ?_|with_reducible first|apply l_|apply m_|apply n_|apply o_|refine p_ (fun _=>?_) (fun _=>?_))<;>conv=>whnf));refine CopyC.mk (rows.length - (i+1)) ⟨(by (try dsimp only);(try simp only[putRows,length_append,length_map,length_cons,length_nil,length_take,length_drop,toNat_natCast,toNat_zero,zero_add,sub_zero,add_zero]);omega),(by (try dsimp only);(try simp only[putRows,length_append,length_map,length_cons,length_nil,length_take,length_drop,toNat_natCast,toNat_zero,zero_add,sub_zero,add_zero]);omega),(by (try dsimp only);(try simp only[putRows,length_append,length_map,length_cons,length_nil,length_take,length_drop,toNat_natCast,toNat_zero,zero_add,sub_zero,add_zero]);omega)⟩ (Need.mk ⟨(by (try dsimp only);(try simp only[putRows,length_append,length_map,length_cons,length_nil,length_take,length_drop,toNat_natCast,toNat_zero,zero_add,sub_zero,add_zero]);omega),(by (try dsimp only);(try simp only[putRows,length_append,length_map,length_cons,length_nil,length_take,length_drop,toNat_natCast,toNat_zero,zero_add,sub_zero,add_zero]);omega)⟩ ?_);((conv=>whnf);repeat' ((first|(with_reducible first|apply a_|apply b_|apply c_)|((with_reducible first|apply d_|apply e_|apply f_|apply g_|apply h_);first|omega|simp only[q_]<;>omega)|((with_reducible apply i_);first|omega|simp only[q_]<;>omega)|((with_reducible apply h_);first|decide|kernel_rfl)|refine s_ (by decide) ?_|refine t_ (by decide) ?_|with_reducible first|apply l_|apply m_|apply n_|apply o_|refine p_ (fun _=>?_) (fun _=>?_))<;>conv=>whnf));refine ret_fam hR [FK,FK1] [(NK,67)] rfl (fun q hq=>?_) ⟨⟨_,rfl,?_⟩,trivial⟩ ?_
  ·have hk:=(hR.keys q hq).1;repeat (first|exact hR.past (a:=[(FK,_),(FK1,_)]) rfl hq|refine app_fam rfl hk ?_)
  ·refine hle_rows rfl ?_ (hon_put hrw hv);simp only[toNat_natCast,toNat_zero,zero_add,sub_zero,drop_zero,take_zero];exact rep2 rows [a,b] (j:=i+1) (by omega) (by omega)
  ·exact⟨rfl,rfl,rfl,rfl,rfl,by first|rfl | ((try dsimp only);simp only[toNat_natCast,toNat_zero,zero_add,sub_zero,drop_zero,take_zero]<;>omega)⟩
 ·refine CallP.ovl _ _ _ _ _ _ ov_int rfl rfl rfl rfl rfl rfl rfl rfl (by (try dsimp only at *);(try simp only[putRows,length_append,length_map,length_cons,length_nil,length_take,length_drop,toNat_natCast,toNat_zero,zero_add,sub_zero,add_zero] at *);omega) ?_;((conv=>whnf);repeat' ((first|(with_reducible first|apply a_|apply b_|apply c_)|((with_reducible first|apply d_|apply e_|apply f_|apply g_|apply h_);first|omega|simp only[q_]<;>omega)|((with_reducible apply i_);first|omega|simp only[q_]<;>omega)|((with_reducible apply h_);first|decide|kernel_rfl)|refine s_ (by decide) ?_|refine t_ (by decide) ?_|with_reducible first|apply l_|apply m_|apply n_|apply o_|refine p_ (fun _=>?_) (fun _=>?_))<;>conv=>whnf));refine CopyC.mk (rows.length - (i+1)) ⟨(by (try dsimp only);(try simp only[putRows,length_append,length_map,length_cons,length_nil,length_take,length_drop,toNat_natCast,toNat_zero,zero_add,sub_zero,add_zero]);omega),(by (try dsimp only);(try simp only[putRows,length_append,length_map,length_cons,length_nil,length_take,length_drop,toNat_natCast,toNat_zero,zero_add,sub_zero,add_zero]);omega),(by (try dsimp only);(try simp only[putRows,length_append,length_map,length_cons,length_nil,length_take,length_drop,toNat_natCast,toNat_zero,zero_add,sub_zero,add_zero]);omega)⟩ (Need.mk ⟨(by (try dsimp only);(try simp only[putRows,length_append,length_map,length_cons,length_nil,length_take,length_drop,toNat_natCast,toNat_zero,zero_add,sub_zero,add_zero]);omega),(by (try dsimp only);(try simp only[putRows,length_append,length_map,length_cons,length_nil,length_take,length_drop,toNat_natCast,toNat_zero,zero_add,sub_zero,add_zero]);omega)⟩ ?_);((conv=>whnf);repeat' ((first|(with_reducible first|apply a_|apply b_|apply c_)|((with_reducible first|apply d_|apply e_|apply f_|apply g_|apply h_);first|omega|simp only[q_]<;>omega)|((with_reducible apply i_);first|omega|simp only[q_]<;>omega)|((with_reducible apply h_);first|decide|kernel_rfl)|refine s_ (by decide) ?_|refine t_ (by decide) ?_|with_reducible first|apply l_|apply m_|apply n_|apply o_|refine p_ (fun _=>?_) (fun _=>?_))<;>conv=>whnf));refine CopyC.mk 2 ⟨(by (try dsimp only at *);(try simp only[putRows,length_append,length_map,length_cons,length_nil,length_take,length_drop,toNat_natCast,toNat_zero,zero_add,sub_zero,add_zero] at *);omega),(by (try dsimp only at *);(try simp only[putRows,length_append,length_map,length_cons,length_nil,length_take,length_drop,toNat_natCast,toNat_zero,zero_add,sub_zero,add_zero] at *);omega),(by first|exact .inr rfl|exact .inl rfl | (refine .inr ?_;trace_state;omega))⟩ (Need.mk ⟨(by (try dsimp only at *);(try simp only[putRows,length_append,length_map,length_cons,length_nil,length_take,length_drop,toNat_natCast,toNat_zero,zero_add,sub_zero,add_zero] at *);omega),(by (try dsimp only at *);(try simp only[putRows,length_append,length_map,length_cons,length_nil,length_take,length_drop,toNat_natCast,toNat_zero,zero_add,sub_zero,add_zero] at *);omega)⟩ ?_);((conv=>whnf);repeat' ((first|(with_reducible first|apply a_|apply b_|apply c_)|((with_reducible first|apply d_|apply e_|apply f_|apply g_|apply h_);first|omega|simp only[q_]<;>omega)|((with_reducible apply i_);first|omega|simp only[q_]<;>omega)|((with_reducible apply h_);first|decide|kernel_rfl)|refine s_ (by decide) ?_|refine t_ (by decide) ?_|with_reducible first|apply l_|apply m_|apply n_|apply o_|refine p_ (fun _=>?_) (fun _=>?_))<;>conv=>whnf));refine ret_fam hR [FK,FK1] [(NK,FK)] rfl (fun q hq=>?_) ⟨⟨_,rfl,?_⟩,trivial⟩ ?_
  ·have hk:=(hR.keys q hq).1;repeat (first|exact hR.past (a:=[(FK,_),(FK1,_)]) rfl hq|refine app_fam rfl hk ?_)
  ·refine hle_rows rfl ?_ (hon_put hrw hv);simp only[toNat_natCast,toNat_zero,zero_add,sub_zero,drop_zero,take_zero];exact rep3 rows [a,b] (j:=i+1) (by show i+2<=_;omega) (by omega) (by show _<=i+2;omega)
  ·exact⟨rfl,rfl,rfl,rfl,rfl,by first|rfl | ((try dsimp only);simp only[toNat_natCast,toNat_zero,zero_add,sub_zero,drop_zero,take_zero]<;>omega)⟩
theorem s_rep_leaf (rows:List (List D)) (i:Nat) (hi:i<rows.length) (hm:rows.length<=1000) (hrw:hon (·∈nT) (.darr 44 1 rows)) (a b:List D) (hv:hon (·∈nT) (.darr 44 1 [a,b])) (R:Rf) (hR:Fam R) :
  CallS Try.prog 44 [.d (.arr FK 44 1 0 rows.length),pInt .i64 i,pInt .i64 ((i+1:Nat):Int),.d (.arr FK1 44 1 0 2)] R [(FK,.darr 44 1 rows),(FK1,.darr 44 1 [a,b])] (.d (.arr NK 44 1 0 (rows.length+1)))
   [(NK,.darr 44 1 (rows.take i++[a,b]++rows.drop (i+1)))]:=by
 refine CallS.full (by omega) fun c hc=>?_;refine callS_in Try.func44 (by rfl) rfl (by kernel_rfl) (by rfl) ([FK,FK1]++nT) (fun k hk=>?_) ?_
 ·rw[map_append] at hk;rcases mem_append.1 hk with hk | hk
  ·exact mem_append_right _ (hR.key k hk)
  ·exact mem_append_left _ hk
 rw[hR.swap rfl];((conv=>whnf);repeat' ((first|(with_reducible first|apply a_|apply b_|apply c_)|((with_reducible first|apply d_|apply e_|apply f_|apply g_|apply h_);first|omega|simp only[q_]<;>omega)|((with_reducible apply i_);first|omega|simp only[q_]<;>omega)|((with_reducible apply h_);first|decide|kernel_rfl)|refine s_ (by decide) ?_|refine t_ (by decide) ?_|with_reducible first|apply l_|apply m_|apply n_|apply o_|refine p_ (fun _=>?_) (fun _=>?_))<;>conv=>whnf))
 ·refine Need.by3 24 rfl (by (try dsimp only);(try simp only[putRows,length_append,length_map,length_cons,length_nil,length_take,length_drop,toNat_natCast,toNat_zero,zero_add,sub_zero,add_zero]);omega) ?_;refine CapC.mk (fun room=>?_) (fun grow=>?_)
  ·((conv=>whnf);repeat' ((first|(with_reducible first|apply a_|apply b_|apply c_)|((with_reducible first|apply d_|apply e_|apply f_|apply g_|apply h_);first|omega|simp only[q_]<;>omega)|((with_reducible apply i_);first|omega|simp only[q_]<;>omega)|((with_reducible apply h_);first|decide|kernel_rfl)|refine s_ (by decide) ?_|refine t_ (by decide) ?_|with_reducible first|apply l_|apply m_|apply n_|apply o_|refine p_ (fun _=>?_) (fun _=>?_))<;>conv=>whnf));refine ret_fam hR [FK,FK1] [(NK,FK)] rfl (fun q hq=>?_) ⟨⟨_,rfl,?_⟩,trivial⟩ ?_
   ·have hk:=(hR.keys q hq).1;repeat (first|exact hR.past (a:=[(FK,_),(FK1,_)]) rfl hq|refine app_fam rfl hk ?_)
   ·refine hle_rows rfl ?_ (hon_put hrw hv);simp only[toNat_natCast,toNat_zero,zero_add,sub_zero,drop_zero,take_zero];exact rep1 rows [a,b] (j:=i+1) (by omega) (by show _<=_+2;omega)
   ·exact⟨rfl,rfl,rfl,rfl,rfl,by first|rfl | ((try dsimp only);simp only[toNat_natCast,toNat_zero,zero_add,sub_zero,drop_zero,take_zero]<;>omega)⟩
  ·((conv=>whnf);repeat' ((first|(with_reducible first|apply a_|apply b_|apply c_)|((with_reducible first|apply d_|apply e_|apply f_|apply g_|apply h_);first|omega|simp only[q_]<;>omega)|((with_reducible apply i_);first|omega|simp only[q_]<;>omega)|((with_reducible apply h_);first|decide|kernel_rfl)|refine s_ (by decide) ?_|refine t_ (by decide) ?_|with_reducible first|apply l_|apply m_|apply n_|apply o_|refine p_ (fun _=>?_) (fun _=>?_))<;>conv=>whnf));refine ret_fam hR [FK,FK1] [(NK,34)] rfl (fun q hq=>?_) ⟨⟨_,rfl,?_⟩,trivial⟩ ?_
   ·have hk:=(hR.keys q hq).1;repeat (first|exact hR.past (a:=[(FK,_),(FK1,_)]) rfl hq|refine app_fam rfl hk ?_)
   ·refine hle_rows rfl ?_ (hon_put hrw hv);simp only[toNat_natCast,toNat_zero,zero_add,sub_zero,drop_zero,take_zero];exact rep1' rows [a,b] (j:=i+1) (by omega)
   ·exact⟨rfl,rfl,rfl,rfl,rfl,by first|rfl | ((try dsimp only);simp only[toNat_natCast,toNat_zero,zero_add,sub_zero,drop_zero,take_zero]<;>omega)⟩
 ·refine Need.by4 24 rfl (by (try dsimp only at *);(try simp only[putRows,length_append,length_map,length_cons,length_nil,length_take,length_drop,toNat_natCast,toNat_zero,zero_add,sub_zero,add_zero] at *);omega) ?_;((conv=>whnf);repeat' ((first|(with_reducible first|apply a_|apply b_|apply c_)|((with_reducible first|apply d_|apply e_|apply f_|apply g_|apply h_);first|omega|simp only[q_]<;>omega)|((with_reducible apply i_);first|omega|simp only[q_]<;>omega)|((with_reducible apply h_);first|decide|kernel_rfl)|refine s_ (by decide) ?_|refine t_ (by decide) ?_|with_reducible first|apply l_|apply m_|apply n_|apply o_|refine p_ (fun _=>?_) (fun _=>?_))<;>conv=>whnf));refine CopyC.mk 2 ⟨(by (try dsimp only at *);(try simp only[putRows,length_append,length_map,length_cons,length_nil,length_take,length_drop,toNat_natCast,toNat_zero,zero_add,sub_zero,add_zero] at *);omega),(by (try dsimp only at *);(try simp only[putRows,length_append,length_map,length_cons,length_nil,length_take,length_drop,toNat_natCast,toNat_zero,zero_add,sub_zero,add_zero] at *);omega),(by first|exact .inr rfl|exact .inl rfl | (refine .inr ?_;trace_state;omega))⟩ (Need.mk ⟨(by (try dsimp only at *);(try simp only[putRows,length_append,length_map,length_cons,length_nil,length_take,length_drop,toNat_natCast,toNat_zero,zero_add,sub_zero,add_zero] at *);omega),(by (try dsimp only at *);(try simp only[putRows,length_append,length_map,length_cons,length_nil,length_take,length_drop,toNat_natCast,toNat_zero,zero_add,sub_zero,add_zero] at *);omega)⟩ ?_);((conv=>whnf);repeat' ((first|(with_reducible first|apply a_|apply b_|apply c_)|((with_reducible first|apply d_|apply e_|apply f_|apply g_|apply h_);first|omega|simp only[q_]<;>omega)|((with_reducible apply i_);first|omega|simp only[q_]<;>omega)|((with_reducible apply h_);first|decide|kernel_rfl)|refine s_ (by decide) ?_|refine t_ (by decide) ?_|with_reducible first|apply l_|apply m_|apply n_|apply o_|refine p_ (fun _=>?_) (fun _=>?_))<;>conv=>whnf));refine CopyC.mk (rows.length - (i+1)) ⟨(by (try dsimp only);(try simp only[putRows,length_append,length_map,length_cons,length_nil,length_take,length_drop,toNat_natCast,toNat_zero,zero_add,sub_zero,add_zero]);omega),(by (try dsimp only);(try simp only[putRows,length_append,length_map,length_cons,length_nil,length_take,length_drop,toNat_natCast,toNat_zero,zero_add,sub_zero,add_zero]);omega),(by (try dsimp only);(try simp only[putRows,length_append,length_map,length_cons,length_nil,length_take,length_drop,toNat_natCast,toNat_zero,zero_add,sub_zero,add_zero]);omega)⟩ (Need.mk ⟨(by (try dsimp only);(try simp only[putRows,length_append,length_map,length_cons,length_nil,length_take,length_drop,toNat_natCast,toNat_zero,zero_add,sub_zero,add_zero]);omega),(by (try dsimp only);(try simp only[putRows,length_append,length_map,length_cons,length_nil,length_take,length_drop,toNat_natCast,toNat_zero,zero_add,sub_zero,add_zero]);omega)⟩ ?_);((conv=>whnf);repeat' ((first|(with_reducible first|apply a_|apply b_|apply c_)|((with_reducible first|apply d_|apply e_|apply f_|apply g_|apply h_);first|omega|simp only[q_]<;>omega)|((with_reducible apply i_);first|omega|simp only[q_]<;>omega)|((with_reducible apply h_);first|decide|kernel_rfl)|refine s_ (by decide) ?_|refine t_ (by decide) ?_|with_reducible first|apply l_|apply m_|apply n_|apply o_|refine p_ (fun _=>?_) (fun _=>?_))<;>conv=>whnf));refine ret_fam hR [FK,FK1] [(NK,67)] rfl (fun q hq=>?_) ⟨⟨_,rfl,?_⟩,trivial⟩ ?_
  ·have hk:=(hR.keys q hq).1;repeat (first|exact hR.past (a:=[(FK,_),(FK1,_)]) rfl hq|refine app_fam rfl hk ?_)
  ·refine hle_rows rfl ?_ (hon_put hrw hv);simp only[toNat_natCast,toNat_zero,zero_add,sub_zero,drop_zero,take_zero];exact rep2 rows [a,b] (j:=i+1) (by omega) (by omega)
  ·exact⟨rfl,rfl,rfl,rfl,rfl,by first|rfl | ((try dsimp only);simp only[toNat_natCast,toNat_zero,zero_add,sub_zero,drop_zero,take_zero]<;>omega)⟩
 ·refine CallP.ovl _ _ _ _ _ _ ov_leaf rfl rfl rfl rfl rfl rfl rfl rfl (by (try dsimp only at *);(try simp only[putRows,length_append,length_map,length_cons,length_nil,length_take,length_drop,toNat_natCast,toNat_zero,zero_add,sub_zero,add_zero] at *);omega) ?_;((conv=>whnf);repeat' ((first|(with_reducible first|apply a_|apply b_|apply c_)|((with_reducible first|apply d_|apply e_|apply f_|apply g_|apply h_);first|omega|simp only[q_]<;>omega)|((with_reducible apply i_);first|omega|simp only[q_]<;>omega)|((with_reducible apply h_);first|decide|kernel_rfl)|refine s_ (by decide) ?_|refine t_ (by decide) ?_|with_reducible first|apply l_|apply m_|apply n_|apply o_|refine p_ (fun _=>?_) (fun _=>?_))<;>conv=>whnf));refine CopyC.mk (rows.length - (i+1)) ⟨(by (try dsimp only);(try simp only[putRows,length_append,length_map,length_cons,length_nil,length_take,length_drop,toNat_natCast,toNat_zero,zero_add,sub_zero,add_zero]);omega),(by (try dsimp only);(try simp only[putRows,length_append,length_map,length_cons,length_nil,length_take,length_drop,toNat_natCast,toNat_zero,zero_add,sub_zero,add_zero]);omega),(by (try dsimp only);(try simp only[putRows,length_append,length_map,length_cons,length_nil,length_take,length_drop,toNat_natCast,toNat_zero,zero_add,sub_zero,add_zero]);omega)⟩ (Need.mk ⟨(by (try dsimp only);(try simp only[putRows,length_append,length_map,length_cons,length_nil,length_take,length_drop,toNat_natCast,toNat_zero,zero_add,sub_zero,add_zero]);omega),(by (try dsimp only);(try simp only[putRows,length_append,length_map,length_cons,length_nil,length_take,length_drop,toNat_natCast,toNat_zero,zero_add,sub_zero,add_zero]);omega)⟩ ?_);((conv=>whnf);repeat' ((first|(with_reducible first|apply a_|apply b_|apply c_)|((with_reducible first|apply d_|apply e_|apply f_|apply g_|apply h_);first|omega|simp only[q_]<;>omega)|((with_reducible apply i_);first|omega|simp only[q_]<;>omega)|((with_reducible apply h_);first|decide|kernel_rfl)|refine s_ (by decide) ?_|refine t_ (by decide) ?_|with_reducible first|apply l_|apply m_|apply n_|apply o_|refine p_ (fun _=>?_) (fun _=>?_))<;>conv=>whnf));refine CopyC.mk 2 ⟨(by (try dsimp only at *);(try simp only[putRows,length_append,length_map,length_cons,length_nil,length_take,length_drop,toNat_natCast,toNat_zero,zero_add,sub_zero,add_zero] at *);omega),(by (try dsimp only at *);(try simp only[putRows,length_append,length_map,length_cons,length_nil,length_take,length_drop,toNat_natCast,toNat_zero,zero_add,sub_zero,add_zero] at *);omega),(by first|exact .inr rfl|exact .inl rfl | (refine .inr ?_;trace_state;omega))⟩ (Need.mk ⟨(by (try dsimp only at *);(try simp only[putRows,length_append,length_map,length_cons,length_nil,length_take,length_drop,toNat_natCast,toNat_zero,zero_add,sub_zero,add_zero] at *);omega),(by (try dsimp only at *);(try simp only[putRows,length_append,length_map,length_cons,length_nil,length_take,length_drop,toNat_natCast,toNat_zero,zero_add,sub_zero,add_zero] at *);omega)⟩ ?_);((conv=>whnf);repeat' ((first|(with_reducible first|apply a_|apply b_|apply c_)|((with_reducible first|apply d_|apply e_|apply f_|apply g_|apply h_);first|omega|simp only[q_]<;>omega)|((with_reducible apply i_);first|omega|simp only[q_]<;>omega)|((with_reducible apply h_);first|decide|kernel_rfl)|refine s_ (by decide) ?_|refine t_ (by decide) ?_|with_reducible first|apply l_|apply m_|apply n_|apply o_|refine p_ (fun _=>?_) (fun _=>?_))<;>conv=>whnf));refine ret_fam hR [FK,FK1] [(NK,FK)] rfl (fun q hq=>?_) ⟨⟨_,rfl,?_⟩,trivial⟩ ?_
  ·have hk:=(hR.keys q hq).1;repeat (first|exact hR.past (a:=[(FK,_),(FK1,_)]) rfl hq|refine app_fam rfl hk ?_)
  ·refine hle_rows rfl ?_ (hon_put hrw hv);simp only[toNat_natCast,toNat_zero,zero_add,sub_zero,drop_zero,take_zero];exact rep3 rows [a,b] (j:=i+1) (by show i+2<=_;omega) (by omega) (by show _<=i+2;omega)
  ·exact⟨rfl,rfl,rfl,rfl,rfl,by first|rfl | ((try dsimp only);simp only[toNat_natCast,toNat_zero,zero_add,sub_zero,drop_zero,take_zero]<;>omega)⟩
theorem s_ins_pair (rows:List (List D)) (i:Nat) (hi:i<=rows.length) (hm:rows.length<=1000) (h0:0<rows.length) (hrw:hon (·∈nT) (.darr 41 2 rows)) (a:List D) (hv:hon (·∈nT) (.darr 41 2 [a])) (R:Rf) (hR:Fam R) :
  CallS Try.prog 16 [.d (.arr FK 41 2 0 rows.length),pInt .i64 i,.d (.arr FK1 41 2 0 1)] R [(FK,.darr 41 2 rows),(FK1,.darr 41 2 [a])] (.d (.arr NK 41 2 0 (rows.length+1)))
   [(NK,.darr 41 2 (rows.take i++[a]++rows.drop (i)))]:=by
 refine CallS.full (by omega) fun c hc=>?_;refine callS_in Try.func16 (by rfl) rfl (by kernel_rfl) (by rfl) ([FK,FK1]++nT) (fun k hk=>?_) ?_
 ·rw[map_append] at hk;rcases mem_append.1 hk with hk | hk
  ·exact mem_append_right _ (hR.key k hk)
  ·exact mem_append_left _ hk
 rw[hR.swap rfl];((conv=>whnf);repeat' ((first|(with_reducible first|apply a_|apply b_|apply c_)|((with_reducible first|apply d_|apply e_|apply f_|apply g_|apply h_);first|omega|simp only[q_]<;>omega)|((with_reducible apply i_);first|omega|simp only[q_]<;>omega)|((with_reducible apply h_);first|decide|kernel_rfl)|refine s_ (by decide) ?_|refine t_ (by decide) ?_|with_reducible first|apply l_|apply m_|apply n_|apply o_|refine p_ (fun _=>?_) (fun _=>?_))<;>conv=>whnf))
 ·obtain rfl:i=rows.length:=by omega
  refine Need.by3 24 rfl (by (try dsimp only);(try simp only[putRows,length_append,length_map,length_cons,length_nil,length_take,length_drop,toNat_natCast,toNat_zero,zero_add,sub_zero,add_zero]);omega) ?_;refine CapC.mk (fun room=>?_) (fun grow=>?_)
  ·((conv=>whnf);repeat' ((first|(with_reducible first|apply a_|apply b_|apply c_)|((with_reducible first|apply d_|apply e_|apply f_|apply g_|apply h_);first|omega|simp only[q_]<;>omega)|((with_reducible apply i_);first|omega|simp only[q_]<;>omega)|((with_reducible apply h_);first|decide|kernel_rfl)|refine s_ (by decide) ?_|refine t_ (by decide) ?_|with_reducible first|apply l_|apply m_|apply n_|apply o_|refine p_ (fun _=>?_) (fun _=>?_))<;>conv=>whnf));refine ret_fam hR [FK,FK1] [(NK,FK)] rfl (fun q hq=>?_) ⟨⟨_,rfl,?_⟩,trivial⟩ ?_
   ·have hk:=(hR.keys q hq).1;repeat (first|exact hR.past (a:=[(FK,_),(FK1,_)]) rfl hq|refine app_fam rfl hk ?_)
   ·refine hle_rows rfl ?_ (hon_put hrw hv);simp only[toNat_natCast,toNat_zero,zero_add,sub_zero,drop_zero,take_zero];exact rep1 rows [a] (j:=rows.length) (by omega) (by show _<=_+1;omega)
   ·exact⟨rfl,rfl,rfl,rfl,rfl,by first|rfl | ((try dsimp only);simp only[toNat_natCast,toNat_zero,zero_add,sub_zero,drop_zero,take_zero]<;>omega)⟩
  ·((conv=>whnf);repeat' ((first|(with_reducible first|apply a_|apply b_|apply c_)|((with_reducible first|apply d_|apply e_|apply f_|apply g_|apply h_);first|omega|simp only[q_]<;>omega)|((with_reducible apply i_);first|omega|simp only[q_]<;>omega)|((with_reducible apply h_);first|decide|kernel_rfl)|refine s_ (by decide) ?_|refine t_ (by decide) ?_|with_reducible first|apply l_|apply m_|apply n_|apply o_|refine p_ (fun _=>?_) (fun _=>?_))<;>conv=>whnf));refine ret_fam hR [FK,FK1] [(NK,25)] rfl (fun q hq=>?_) ⟨⟨_,rfl,?_⟩,trivial⟩ ?_
   ·have hk:=(hR.keys q hq).1;repeat (first|exact hR.past (a:=[(FK,_),(FK1,_)]) rfl hq|refine app_fam rfl hk ?_)
   ·refine hle_rows rfl ?_ (hon_put hrw hv);simp only[toNat_natCast,toNat_zero,zero_add,sub_zero,drop_zero,take_zero];exact rep1' rows [a] (j:=rows.length) (by omega)
   ·exact⟨rfl,rfl,rfl,rfl,rfl,by first|rfl | ((try dsimp only);simp only[toNat_natCast,toNat_zero,zero_add,sub_zero,drop_zero,take_zero]<;>omega)⟩
 ·refine Need.by4 24 rfl (by (try dsimp only at *);(try simp only[putRows,length_append,length_map,length_cons,length_nil,length_take,length_drop,toNat_natCast,toNat_zero,zero_add,sub_zero,add_zero] at *);omega) ?_;((conv=>whnf);repeat' ((first|(with_reducible first|apply a_|apply b_|apply c_)|((with_reducible first|apply d_|apply e_|apply f_|apply g_|apply h_);first|omega|simp only[q_]<;>omega)|((with_reducible apply i_);first|omega|simp only[q_]<;>omega)|((with_reducible apply h_);first|decide|kernel_rfl)|refine s_ (by decide) ?_|refine t_ (by decide) ?_|with_reducible first|apply l_|apply m_|apply n_|apply o_|refine p_ (fun _=>?_) (fun _=>?_))<;>conv=>whnf));refine CopyC.mk 1 ⟨(by (try dsimp only at *);(try simp only[putRows,length_append,length_map,length_cons,length_nil,length_take,length_drop,toNat_natCast,toNat_zero,zero_add,sub_zero,add_zero] at *);omega),(by (try dsimp only at *);(try simp only[putRows,length_append,length_map,length_cons,length_nil,length_take,length_drop,toNat_natCast,toNat_zero,zero_add,sub_zero,add_zero] at *);omega),(by first|exact .inr rfl|exact .inl rfl | (refine .inr ?_;trace_state;omega))⟩ (Need.mk ⟨(by (try dsimp only at *);(try simp only[putRows,length_append,length_map,length_cons,length_nil,length_take,length_drop,toNat_natCast,toNat_zero,zero_add,sub_zero,add_zero] at *);omega),(by (try dsimp only at *);(try simp only[putRows,length_append,length_map,length_cons,length_nil,length_take,length_drop,toNat_natCast,toNat_zero,zero_add,sub_zero,add_zero] at *);omega)⟩ ?_);((conv=>whnf);repeat' ((first|(with_reducible first|apply a_|apply b_|apply c_)|((with_reducible first|apply d_|apply e_|apply f_|apply g_|apply h_);first|omega|simp only[q_]<;>omega)|((with_reducible apply i_);first|omega|simp only[q_]<;>omega)|((with_reducible apply h_);first|decide|kernel_rfl)|refine s_ (by decide) ?_|refine t_ (by decide) ?_|with_reducible first|apply l_|apply m_|apply n_|apply o_|refine p_ (fun _=>?_) (fun _=>?_))<;>conv=>whnf));refine CopyC.mk (rows.length - (i)) ⟨(by (try dsimp only);(try simp only[putRows,length_append,length_map,length_cons,length_nil,length_take,length_drop,toNat_natCast,toNat_zero,zero_add,sub_zero,add_zero]);omega),(by (try dsimp only);(try simp only[putRows,length_append,length_map,length_cons,length_nil,length_take,length_drop,toNat_natCast,toNat_zero,zero_add,sub_zero,add_zero]);omega),(by (try dsimp only);(try simp only[putRows,length_append,length_map,length_cons,length_nil,length_take,length_drop,toNat_natCast,toNat_zero,zero_add,sub_zero,add_zero]);omega)⟩ (Need.mk ⟨(by (try dsimp only);(try simp only[putRows,length_append,length_map,length_cons,length_nil,length_take,length_drop,toNat_natCast,toNat_zero,zero_add,sub_zero,add_zero]);omega),(by (try dsimp only);(try simp only[putRows,length_append,length_map,length_cons,length_nil,length_take,length_drop,toNat_natCast,toNat_zero,zero_add,sub_zero,add_zero]);omega)⟩ ?_);((conv=>whnf);repeat' ((first|(with_reducible first|apply a_|apply b_|apply c_)|((with_reducible first|apply d_|apply e_|apply f_|apply g_|apply h_);first|omega|simp only[q_]<;>omega)|((with_reducible apply i_);first|omega|simp only[q_]<;>omega)|((with_reducible apply h_);first|decide|kernel_rfl)|refine s_ (by decide) ?_|refine t_ (by decide) ?_|with_reducible first|apply l_|apply m_|apply n_|apply o_|refine p_ (fun _=>?_) (fun _=>?_))<;>conv=>whnf));refine ret_fam hR [FK,FK1] [(NK,40)] rfl (fun q hq=>?_) ⟨⟨_,rfl,?_⟩,trivial⟩ ?_
  ·have hk:=(hR.keys q hq).1;repeat (first|exact hR.past (a:=[(FK,_),(FK1,_)]) rfl hq|refine app_fam rfl hk ?_)
  ·refine hle_rows rfl ?_ (hon_put hrw hv);simp only[toNat_natCast,toNat_zero,zero_add,sub_zero,drop_zero,take_zero];exact rep2 rows [a] (j:=i) (by omega) (by omega)
  ·exact⟨rfl,rfl,rfl,rfl,rfl,by first|rfl | ((try dsimp only);simp only[toNat_natCast,toNat_zero,zero_add,sub_zero,drop_zero,take_zero]<;>omega)⟩
 ·refine CallP.ovl _ _ _ _ _ _ ov_pair rfl rfl rfl rfl rfl rfl rfl rfl (by (try dsimp only at *);(try simp only[putRows,length_append,length_map,length_cons,length_nil,length_take,length_drop,toNat_natCast,toNat_zero,zero_add,sub_zero,add_zero] at *);omega) ?_;((conv=>whnf);repeat' ((first|(with_reducible first|apply a_|apply b_|apply c_)|((with_reducible first|apply d_|apply e_|apply f_|apply g_|apply h_);first|omega|simp only[q_]<;>omega)|((with_reducible apply i_);first|omega|simp only[q_]<;>omega)|((with_reducible apply h_);first|decide|kernel_rfl)|refine s_ (by decide) ?_|refine t_ (by decide) ?_|with_reducible first|apply l_|apply m_|apply n_|apply o_|refine p_ (fun _=>?_) (fun _=>?_))<;>conv=>whnf));refine CopyC.mk (rows.length - (i)) ⟨(by (try dsimp only);(try simp only[putRows,length_append,length_map,length_cons,length_nil,length_take,length_drop,toNat_natCast,toNat_zero,zero_add,sub_zero,add_zero]);omega),(by (try dsimp only);(try simp only[putRows,length_append,length_map,length_cons,length_nil,length_take,length_drop,toNat_natCast,toNat_zero,zero_add,sub_zero,add_zero]);omega),(by (try dsimp only);(try simp only[putRows,length_append,length_map,length_cons,length_nil,length_take,length_drop,toNat_natCast,toNat_zero,zero_add,sub_zero,add_zero]);omega)⟩ (Need.mk ⟨(by (try dsimp only);(try simp only[putRows,length_append,length_map,length_cons,length_nil,length_take,length_drop,toNat_natCast,toNat_zero,zero_add,sub_zero,add_zero]);omega),(by (try dsimp only);(try simp only[putRows,length_append,length_map,length_cons,length_nil,length_take,length_drop,toNat_natCast,toNat_zero,zero_add,sub_zero,add_zero]);omega)⟩ ?_);((conv=>whnf);repeat' ((first|(with_reducible first|apply a_|apply b_|apply c_)|((with_reducible first|apply d_|apply e_|apply f_|apply g_|apply h_);first|omega|simp only[q_]<;>omega)|((with_reducible apply i_);first|omega|simp only[q_]<;>omega)|((with_reducible apply h_);first|decide|kernel_rfl)|refine s_ (by decide) ?_|refine t_ (by decide) ?_|with_reducible first|apply l_|apply m_|apply n_|apply o_|refine p_ (fun _=>?_) (fun _=>?_))<;>conv=>whnf));refine CopyC.mk 1 ⟨(by (try dsimp only at *);(try simp only[putRows,length_append,length_map,length_cons,length_nil,length_take,length_drop,toNat_natCast,toNat_zero,zero_add,sub_zero,add_zero] at *);omega),(by (try dsimp only at *);(try simp only[putRows,length_append,length_map,length_cons,length_nil,length_take,length_drop,toNat_natCast,toNat_zero,zero_add,sub_zero,add_zero] at *);omega),(by first|exact .inr rfl|exact .inl rfl | (refine .inr ?_;trace_state;omega))⟩ (Need.mk ⟨(by (try dsimp only at *);(try simp only[putRows,length_append,length_map,length_cons,length_nil,length_take,length_drop,toNat_natCast,toNat_zero,zero_add,sub_zero,add_zero] at *);omega),(by (try dsimp only at *);(try simp only[putRows,length_append,length_map,length_cons,length_nil,length_take,length_drop,toNat_natCast,toNat_zero,zero_add,sub_zero,add_zero] at *);omega)⟩ ?_);((conv=>whnf);repeat' ((first|(with_reducible first|apply a_|apply b_|apply c_)|((with_reducible first|apply d_|apply e_|apply f_|apply g_|apply h_);first|omega|simp only[q_]<;>omega)|((with_reducible apply i_);first|omega|simp only[q_]<;>omega)|((with_reducible apply h_);first|decide|kernel_rfl)|refine s_ (by decide) ?_|refine t_ (by decide) ?_|with_reducible first|apply l_|apply m_|apply n_|apply o_|refine p_ (fun _=>?_) (fun _=>?_))<;>conv=>whnf));refine ret_fam hR [FK,FK1] [(NK,FK)] rfl (fun q hq=>?_) ⟨⟨_,rfl,?_⟩,trivial⟩ ?_
  ·have hk:=(hR.keys q hq).1;repeat (first|exact hR.past (a:=[(FK,_),(FK1,_)]) rfl hq|refine app_fam rfl hk ?_)
  ·refine hle_rows rfl ?_ (hon_put hrw hv);simp only[toNat_natCast,toNat_zero,zero_add,sub_zero,drop_zero,take_zero];exact rep3 rows [a] (j:=i) (by show i+1<=_;omega) (by omega) (by show _<=i+1;omega)
  ·exact⟨rfl,rfl,rfl,rfl,rfl,by first|rfl | ((try dsimp only);simp only[toNat_natCast,toNat_zero,zero_add,sub_zero,drop_zero,take_zero]<;>omega)⟩
end
section
open Go.RowKit
end
section
open Go.RowKit K
open Tr
theorem Tr.Need.by1 {n x lim:Nat} {K:Prop} (B:Nat) (hb:x=B) (h:n*B<=lim) (k:K):Need (n*x<=lim) K:=by subst hb;exact⟨h,k⟩
theorem s_clone_pair (l:List (List C)) (h0:l≠[]) (h:l.length<=1000):CallS Try.prog 35 [.d (.c (.sl 2 l))] [] [] (.d (.arr NK 41 2 0 l.length)) [(NK,.arr 41 2 l)]:=by
 cases l with
 | nil=>exact absurd rfl h0|cons x l=>
  refine callS_of Try.func35 (by rfl) rfl (by kernel_rfl) (by rfl) [] rfl ?_;((conv=>whnf);repeat' ((first|(with_reducible first|apply a_|apply b_|apply c_)|((with_reducible first|apply d_|apply e_|apply f_|apply g_|apply h_);first|omega|simp only[q_]<;>omega)|((with_reducible apply i_);first|omega|simp only[q_]<;>omega)|((with_reducible apply h_);first|decide|kernel_rfl)|refine s_ (by decide) ?_|refine t_ (by decide) ?_|(refine EmpOr.emp ?_)|(refine Need.mk (cons_ne_nil _ _) ?_)|with_reducible first|apply l_|apply m_|apply n_|apply o_|refine p_ (fun _=>?_) (fun _=>?_))<;>conv=>whnf));refine Need.by1 24 rfl (by omega) ?_;((conv=>whnf);repeat' ((first|(with_reducible first|apply a_|apply b_|apply c_)|((with_reducible first|apply d_|apply e_|apply f_|apply g_|apply h_);first|omega|simp only[q_]<;>omega)|((with_reducible apply i_);first|omega|simp only[q_]<;>omega)|((with_reducible apply h_);first|decide|kernel_rfl)|refine s_ (by decide) ?_|refine t_ (by decide) ?_|with_reducible first|apply l_|apply m_|apply n_|apply o_|refine p_ (fun _=>?_) (fun _=>?_))<;>conv=>whnf));refine RetS.mk [(NK,7)] [NK] rfl rfl ⟨rfl,rfl,rfl,rfl,rfl,rfl⟩ ⟨⟨rfl,rfl,rfl,rfl⟩,trivial⟩
theorem s_clone_int (l:List (List C)) (h0:l≠[]) (h:l.length<=1000):CallS Try.prog 36 [.d (.c (.sl 1 l))] [] [] (.d (.arr NK 3 1 0 l.length)) [(NK,.arr 3 1 l)]:=by
 cases l with
 | nil=>exact absurd rfl h0|cons x l=>
  refine callS_of Try.func36 (by rfl) rfl (by kernel_rfl) (by rfl) [] rfl ?_;((conv=>whnf);repeat' ((first|(with_reducible first|apply a_|apply b_|apply c_)|((with_reducible first|apply d_|apply e_|apply f_|apply g_|apply h_);first|omega|simp only[q_]<;>omega)|((with_reducible apply i_);first|omega|simp only[q_]<;>omega)|((with_reducible apply h_);first|decide|kernel_rfl)|refine s_ (by decide) ?_|refine t_ (by decide) ?_|(refine EmpOr.emp ?_)|(refine Need.mk (cons_ne_nil _ _) ?_)|with_reducible first|apply l_|apply m_|apply n_|apply o_|refine p_ (fun _=>?_) (fun _=>?_))<;>conv=>whnf));refine Need.by1 8 rfl (by omega) ?_;((conv=>whnf);repeat' ((first|(with_reducible first|apply a_|apply b_|apply c_)|((with_reducible first|apply d_|apply e_|apply f_|apply g_|apply h_);first|omega|simp only[q_]<;>omega)|((with_reducible apply i_);first|omega|simp only[q_]<;>omega)|((with_reducible apply h_);first|decide|kernel_rfl)|refine s_ (by decide) ?_|refine t_ (by decide) ?_|with_reducible first|apply l_|apply m_|apply n_|apply o_|refine p_ (fun _=>?_) (fun _=>?_))<;>conv=>whnf));refine RetS.mk [(NK,7)] [NK] rfl rfl ⟨rfl,rfl,rfl,rfl,rfl,rfl⟩ ⟨⟨rfl,rfl,rfl,rfl⟩,trivial⟩
theorem s_clone_own (rows:List (List C)) (lo n:Nat) (hn:0<n) (hl:lo+n<=rows.length) (h:rows.length<=1000):CallS Try.prog 35 [.d (.arr FK 41 2 lo n)] [(FK,.darr 41 2 (rows.map (List.map D.c)))] [] (.d (.arr NK 41 2 0 n)) [(NK,.darr 41 2 (((rows.drop lo).take n).map (List.map D.c)))]:=by
 have hlm:(rows.map (List.map D.c)).length=rows.length:=length_map _;refine callS_of Try.func35 (by rfl) rfl (by kernel_rfl) (by rfl) [FK] rfl ?_;((conv=>whnf);repeat' ((first|(with_reducible first|apply a_|apply b_|apply c_)|((with_reducible first|apply d_|apply e_|apply f_|apply g_|apply h_);first|omega|simp only[q_]<;>omega)|((with_reducible apply i_);first|omega|simp only[q_]<;>omega)|((with_reducible apply h_);first|decide|kernel_rfl)|refine s_ (by decide) ?_|refine t_ (by decide) ?_|(refine EmpOr.emp ?_)|with_reducible first|apply l_|apply m_|apply n_|apply o_|refine p_ (fun _=>?_) (fun _=>?_))<;>conv=>whnf));refine Need.by3 24 rfl (by dsimp only;omega) ?_;((conv=>whnf);repeat' ((first|(with_reducible first|apply a_|apply b_|apply c_)|((with_reducible first|apply d_|apply e_|apply f_|apply g_|apply h_);first|omega|simp only[q_]<;>omega)|((with_reducible apply i_);first|omega|simp only[q_]<;>omega)|((with_reducible apply h_);first|decide|kernel_rfl)|refine s_ (by decide) ?_|refine t_ (by decide) ?_|with_reducible first|apply l_|apply m_|apply n_|apply o_|refine p_ (fun _=>?_) (fun _=>?_))<;>conv=>whnf));refine RetS.mk [(FK,FK),(NK,7)] [FK,NK] rfl rfl ⟨rfl,rfl,rfl,rfl,rfl,rfl⟩ ⟨⟨rfl,⟨rfl,rfl,dless_cs _⟩⟩,⟨rfl,⟨rfl,rfl,?_⟩⟩,trivial⟩;dsimp only;rw[<- map_drop,<- map_take];exact dless_cs _
end
section
open Go.RowKit K
open Tr
def leafH (a:List PairD):HB:=.darr 41 2 ((a.map PairD.c).map (List.map D.c))
def lvlH (u:List Nat):HB:=.darr 3 1 ((u.map natC).map (List.map D.c))
structure LE where
 k:Nat
 lo:Nat
 n:Nat
 a:List PairD
def LE.row (e:LE):List D:=[.arr e.k 41 2 e.lo e.n]
def LE.val (e:LE):List PairD:=(e.a.drop e.lo).take e.n
def LE.fam (e:LE):Nat×HB:=(e.k,leafH e.a)
def mkL (k:Nat) (l:List PairD):LE:=⟨k,0,l.length,l⟩
theorem mkL_val (k:Nat) (l:List PairD):(mkL k l).val=l:=by unfold mkL LE.val;rw[drop_zero,take_length]
abbrev UE:=Nat×List Nat
def urow (p:UE):List D:=[.arr p.1 3 1 0 p.2.length]
def ufam (p:UE):Nat×HB:=(p.1,lvlH p.2)
abbrev famT (es:List LE) (us:List UE):Rf:=es.map LE.fam++us.map ufam
abbrev nearT (b l u:Nat) (es:List LE) (us:List UE):Rf:=
 [(b,.box 43 [.arr l 44 1 0 es.length,.arr u 61 1 0 us.length]),(l,.darr 44 1 (es.map LE.row)),(u,.darr 61 1 (us.map urow))]
structure NmT (es:List LE) (us:List UE):Prop where
 nd:(es.map LE.k++us.map Prod.fst).Nodup
 inn:∀k∈es.map LE.k++us.map Prod.fst,k∈nT
namespace Tr
theorem hon_leaf (p:Nat->Prop) (a:List PairD):hon p (leafH a):=hon_cs p _ _ _
theorem hon_lvl (p:Nat->Prop) (u:List Nat):hon p (lvlH u):=hon_cs p _ _ _
theorem hmp_cs (F:Nat->Nat) (e sz:Nat) (l:List (List C)):hmp F (.darr e sz (l.map (List.map D.c)))=.darr e sz (l.map (List.map D.c)):=hmp_same (p:=fun _=>False) (fun _ h=>h.elim) (hon_cs _ _ _ _)
theorem hmp_leaf (F:Nat->Nat) (a:List PairD):hmp F (leafH a)=leafH a:=hmp_cs F _ _ _
theorem hmp_lvl (F:Nat->Nat) (u:List Nat):hmp F (lvlH u)=lvlH u:=hmp_cs F _ _ _
theorem famT_keys (es:List LE) (us:List UE):(famT es us).map Prod.fst=es.map LE.k++us.map Prod.fst:=by
 rw[map_append,map_map,map_map];rfl
theorem nodup_look:∀{R:Rf},(R.map Prod.fst).Nodup->∀q∈R,hpL R q.1=some q.2
 | p::R,h,q,hq=>by
  rw[map_cons] at h;obtain⟨h1,h2⟩:=nodup_cons.1 h;rcases mem_cons.1 hq with rfl | hq
  ·show (bif Nat.beq q.1 q.1 then some q.2 else _)=_;rw[beq_refl];rfl
  ·show (bif Nat.beq q.1 p.1 then some p.2 else _)=_;rw[nbeq fun e=>h1 (by rw[<- e];exact mem_map.2 ⟨q,hq,rfl⟩)];exact nodup_look h2 q hq
theorem nm_fam {es:List LE} {us:List UE} (h:NmT es us):Fam (famT es us):=⟨fun q hq=>by
 refine⟨h.inn _ (by rw[<- famT_keys];exact mem_map.2 ⟨q,hq,rfl⟩),?_⟩;rcases mem_append.1 hq with hq | hq
 ·obtain⟨e,_,rfl⟩:=mem_map.1 hq;exact hon_leaf _ _
 ·obtain⟨e,_,rfl⟩:=mem_map.1 hq;exact hon_lvl _ _,nodup_look (by rw[famT_keys];exact h.nd)⟩
end Tr
def ownL (L:List (List PairD)) (k:Nat):List LE:=(List.range k).map fun i=>mkL (i+1000) (L.getD i [])
def ownU (U:List (List Nat)) (k:Nat):List UE:=(List.range k).map fun i=>(i+2000,U.getD i [])
namespace Tr
theorem ownL_succ (L:List (List PairD)) (k:Nat):ownL L (k+1)=ownL L k++[mkL (k+1000) (L.getD k [])]:=by unfold ownL;rw[List.range_succ,map_append];rfl
theorem ownU_succ (U:List (List Nat)) (k:Nat):ownU U (k+1)=ownU U k++[(k+2000,U.getD k [])]:=by unfold ownU;rw[List.range_succ,map_append];rfl
theorem ownL_len (L:List (List PairD)) (k:Nat):(ownL L k).length=k:=by unfold ownL;simp
theorem ownU_len (U:List (List Nat)) (k:Nat):(ownU U k).length=k:=by unfold ownU;simp
theorem ownL_val (L:List (List PairD)):(ownL L L.length).map LE.val=L:=by
 refine List.ext_getElem (by rw[length_map,ownL_len]) fun i h1 h2=>?_;rw[List.getElem_map];unfold ownL;rw[List.getElem_map,List.getElem_range,mkL_val,List.getD_eq_getElem?_getD,List.getElem?_eq_getElem h2];rfl
theorem ownU_val (U:List (List Nat)):(ownU U U.length).map Prod.snd=U:=by
 refine List.ext_getElem (by rw[length_map,ownU_len]) fun i h1 h2=>?_;rw[List.getElem_map];unfold ownU;rw[List.getElem_map,List.getElem_range];show U.getD i []=_;rw[List.getD_eq_getElem?_getD,List.getElem?_eq_getElem h2];rfl
theorem own_keys (L:List (List PairD)) (U:List (List Nat)) (n m:Nat):(ownL L n).map LE.k++(ownU U m).map Prod.fst=(List.range n).map (· + 1000)++(List.range m).map (· + 2000):=by
 unfold ownL ownU;rw[map_map,map_map];rfl
theorem own_nm (L:List (List PairD)) (U:List (List Nat)) {n m:Nat} (hn:n<=64) (hm:m<=8):NmT (ownL L n) (ownU U m):=by
 refine⟨?_,fun k hk=>?_⟩
 ·rw[own_keys];refine nodup_append.2 ⟨?_,?_,fun a ha b hb e=>?_⟩
  ·exact List.Pairwise.map _ (fun a b h=>(by intro e;exact h (by omega))) List.nodup_range
  ·exact List.Pairwise.map _ (fun a b h=>(by intro e;exact h (by omega))) List.nodup_range
  ·obtain⟨i,hi,rfl⟩:=mem_map.1 ha;obtain⟨j,hj,rfl⟩:=mem_map.1 hb;have:=mem_range.1 hi;omega
 ·rw[own_keys] at hk;rcases mem_append.1 hk with hk | hk
  ·obtain⟨i,hi,rfl⟩:=mem_map.1 hk;exact mem_append_left _ (mem_map.2 ⟨i,mem_range.2 (by have:=mem_range.1 hi;omega),rfl⟩)
  ·obtain⟨i,hi,rfl⟩:=mem_map.1 hk;exact mem_append_right _ (mem_append_left _ (mem_map.2 ⟨i,mem_range.2 (by have:=mem_range.1 hi;omega),rfl⟩))
end Tr
namespace Tr
theorem wk_sub {fk:List Nat} {e:Env} {h:Hp} {le:List (Nat×PV)} {lh lh':Rf} {n:List Nat} (w:Wk fk e h le lh n) (hs:∀q∈lh',q∈lh):Wk fk e h le lh' n:=by
 obtain⟨f,hi,hf,he,hh⟩:=w;have hm:∀{l:Rf},HLes (fnL f) n h l->∀q∈l,kin q.1 n=true/\KLe (fnL f) n h q.1 q.2:=by
  intro l;induction l with
  | nil=>intro _ q hq;cases hq
  | cons p l ih=>
   obtain⟨k,b⟩:=p;intro hl q hq;unfold HLes at hl;rcases mem_cons.1 hq with rfl | hq
   ·exact hl.1
   ·exact ih hl.2 q hq
 refine Wk.mk f (injOn_of fun p hp q hq hne a e1 e2=>hne ?_) hf he (hles_of fun q hq=>hm hh q (hs q hq));exact injOn_out hi _ _ _ _ _ (hs q hq) (hs p hp) e2 e1
theorem dless_join {f:Nat->Option Nat} {n:List Nat} {b d:List (List D)}:∀{a c:List (List D)},DLess f n a c->DLess f n b d->DLess f n (a++b) (c++d)
 | [],c,h1,h2=>by
  unfold DLess at h1;rw[h1];exact h2
 | x::a,[],h1,h2=>by unfold DLess at h1;exact h1.elim
 | x::a,y::c,h1,h2=>by
  unfold DLess at h1;rw[cons_append,cons_append];unfold DLess;exact⟨h1.1,dless_join h1.2 h2⟩
theorem hles_out {f:Nat->Option Nat} {n:List Nat} {h:Hp}:∀{l:Rf},HLes f n h l->∀q∈l,kin q.1 n=true/\KLe f n h q.1 q.2
 | [],_,q,hq=>by cases hq
 | (k,b)::l,hl,q,hq=>by
  unfold HLes at hl;rcases mem_cons.1 hq with rfl | hq
  ·exact hl.1
  ·exact hles_out hl.2 q hq
theorem ret_sub {fk fk':List Nat} {h:Hp} {res v:PV} {fin fin':Rf} (w:RetS fk h res fin v) (hs:∀q∈fin',q∈fin) (hk:∀k∈fk',k∈fk):RetS fk' h res fin' v:=by
 obtain⟨f,n,hi,hf,hr,hh⟩:=w;have hfk:∀{l:List Nat},fkOk (fnL f) n l=true->∀k∈l,fnL f k=some k/\kin k n=true:=by
  intro l;induction l with
  | nil=>intro _ k hk;cases hk
  | cons x l ih=>
   intro hl k hk;unfold fkOk at hl;rw[Bool.and_eq_true,Bool.and_eq_true] at hl;rcases mem_cons.1 hk with rfl | hk
   ·refine⟨?_,hl.2.1⟩;have h1:=hl.1;cases hc:fnL f k with
    | none=>rw[hc] at h1;cases h1
    | some y=>rw[hc] at h1;rw[eq_of_beq_eq_true h1]
   ·exact ih hl.2.2 k hk
 have hff:∀l:List Nat,(∀k∈l,fnL f k=some k/\kin k n=true)->fkOk (fnL f) n l=true:=by
  intro l;induction l with
  | nil=>intro _;rfl
  | cons x l ih=>
   intro hl;obtain⟨h1,h2⟩:=hl x mem_cons_self;unfold fkOk;rw[h1,h2,ih fun k hk=>hl k (mem_cons_of_mem _ hk)];show (Nat.beq x x&&_)=true;rw[beq_refl];rfl
 exact RetS.mk f n (injOn_of fun p hp q hq hne a e1 e2=>hne (injOn_out hi _ _ _ _ _ (hs q hq) (hs p hp) e2 e1)) (hff _ fun k hk'=>hfk hf k (hk k hk')) hr (hles_of fun q hq=>hles_out hh q (hs q hq))
theorem dless_fix {ks n:List Nat} {F:Nat->Nat} {l:List (List D)} (hn:∀k∈ks,k∈n) (h:∀r∈l,∀x∈r,on (fun k=>k∈ks/\F k=k) x):DLess (fnL (mR F ks)) n l l:=by
 have e:l.map (List.map (mp F))=l:=by
  conv=>rhs;rw[<- map_id l]
  refine map_congr_left fun r hr=>?_;show r.map (mp F)=r;conv=>rhs;rw[<- map_id r]
  exact map_congr_left fun x hx=>mp_same (p:=fun k=>k∈ks/\F k=k) (fun k hk=>hk.2) (h r hr x hx)
 have:=dless_mp (f:=fnL (mR F ks)) (n:=n) (F:=F) (l:=l) fun r hr x hx=>on_imp (fun k hk=>⟨kin_iff.2 (hn k hk.1),mR_in hk.1⟩) (h r hr x hx)
 rwa [e] at this
theorem wk_push {R:Rf} {h:Hp} {e:Env} {le:List (Nat×PV)} (hR:Fam R) (hno:∀q∈R,hon (fun _=>False) q.2) (z a:List Nat) (ls:List (Nat×Nat)) {out lz:Rf} (hfix:∀k∈R.map Prod.fst,fnL ls k=none) (hap:apart (out.map fun q=>Fl ls q.1)=true)
  (hkey:∀q∈out,q.1∈a++nT) (hz:∀q∈lz,q.1∈z/\q.1∉a++nT/\∃e sz,q.2=.darr e sz []/\0<sz) (hX:∀q∈R,h q.1=some q.2)
  (hL:∀q∈out,∃b',h (Fl ls q.1)=some b'/\HLe (fnL (mR (Fl ls) (a++nT))) (z++(a++nT)) q.2 b') (he:PLes (fnL (mR (Fl ls) (a++nT))) (z++(a++nT)) e le):Wk [] e h le (lz++(out++R)) (z++(a++nT)):=by
 have hN:∀k∈nT,k∈a++nT:=fun k hk=>mem_append_right _ hk;have hF:∀k∈R.map Prod.fst,Fl ls k=k:=fun k hk=>by unfold Fl;rw[hfix k hk];rfl
 have hO:∀q∈out,farK (Fl ls q.1)=true:=fun q hq=>apart_far hap _ (mem_map.2 ⟨q,hq,rfl⟩);have hin:∀q∈out++R,q.1∈a++nT:=fun q hq=>by
  rcases mem_append.1 hq with hq | hq
  ·exact hkey q hq
  ·exact hN _ (hR.keys q hq).1
 have hinj:∀x∈out++R,∀y∈out++R,Fl ls x.1=Fl ls y.1->x.1=y.1:=fun x hx y hy e=>by
  rcases mem_append.1 hx with hx | hx<;>rcases mem_append.1 hy with hy | hy
  ·exact apart_inj (F:=Fl ls) (l:=out.map Prod.fst) (by rw[map_map];exact hap) _ (mem_map.2 ⟨x,hx,rfl⟩) _ (mem_map.2 ⟨y,hy,rfl⟩) e
  ·rw[hF _ (mem_map.2 ⟨y,hy,rfl⟩)] at e;exact absurd (e ▸ (hR.keys y hy).1) (farK_out (hO x hx))
  ·rw[hF _ (mem_map.2 ⟨x,hx,rfl⟩)] at e;exact absurd (e ▸ (hR.keys x hx).1) (farK_out (hO y hy))
  ·rwa [hF _ (mem_map.2 ⟨x,hx,rfl⟩),hF _ (mem_map.2 ⟨y,hy,rfl⟩)] at e
 have hnone:∀q∈lz,fnL (mR (Fl ls) (a++nT)) q.1=none:=fun q hq=>by
  cases hc:fnL (mR (Fl ls) (a++nT)) q.1 with
  | none=>rfl|some x=>exact absurd (mR_some hc).1 (hz q hq).2.1
 refine Wk.mk (mR (Fl ls) (a++nT)) (injOn_of fun p hp q hq hne x e1 e2=>?_) rfl he (hles_of fun q hq=>?_)
 ·have hp':p∈out++R:=by
   rcases mem_append.1 hp with hp | hp
   ·rw[hnone p hp] at e1;cases e1
   ·exact hp
  have hq':q∈out++R:=by
   rcases mem_append.1 hq with hq | hq
   ·rw[hnone q hq] at e2;cases e2
   ·exact hq
  exact hne (hinj q hq' p hp' (by rw[<- (mR_some e1).2,<- (mR_some e2).2]))
 ·rcases mem_append.1 hq with hq | hq
  ·obtain⟨h1,h2,e0,sz,h3,h4⟩:=hz q hq;refine⟨kin_iff.2 (mem_append_left _ h1),?_⟩;unfold KLe;rw[hnone q hq,h3];exact⟨h4,rfl⟩
  ·refine⟨kin_iff.2 (mem_append_right _ (hin q hq)),?_⟩;rcases mem_append.1 hq with hq | hq
   ·obtain⟨b',h1,h2⟩:=hL q hq;exact kle_of (mR_in (hkey q hq)) h1 h2
   ·obtain⟨g1,g2⟩:=hR.keys q hq;refine kle_of (mR_in (hN _ g1)) (b':=q.2) (by rw[hF _ (mem_map.2 ⟨q,hq,rfl⟩)];exact hX q hq) ?_;have:=hle_mp (f:=fnL (mR (Fl ls) (a++nT))) (n:=z++(a++nT)) (F:=Fl ls) (hon_imp (fun k (hk:False)=>hk.elim) (hno q hq))
    rwa [hmp_same (F:=Fl ls) (fun k (hk:False)=>hk.elim) (hno q hq)] at this
end Tr
namespace Tr
theorem famT_no (es:List LE) (us:List UE):∀q∈famT es us,hon (fun _=>False) q.2:=fun q hq=>by
 rcases mem_append.1 hq with hq | hq
 ·obtain⟨e,_,rfl⟩:=mem_map.1 hq;exact hon_leaf _ _
 ·obtain⟨e,_,rfl⟩:=mem_map.1 hq;exact hon_lvl _ _
theorem fnL_skip {q c k:Nat} {l:List (Nat×Nat)} (h:k≠q):fnL ((q,c)::l) k=fnL l k:=by
 show (bif Nat.beq k q then some c else fnL l k)=_;rw[nbeq h];rfl
theorem fnL_hit {q c:Nat} {l:List (Nat×Nat)}:fnL ((q,c)::l) q=some c:=by
 show (bif Nat.beq q q then some c else fnL l q)=_;rw[beq_refl];rfl
theorem Fl_skip {q c k:Nat} {l:List (Nat×Nat)} (h:k≠q):Fl ((q,c)::l) k=Fl l k:=by unfold Fl;rw[fnL_skip h]
theorem Fl_hit {q c:Nat} {l:List (Nat×Nat)}:Fl ((q,c)::l) q=c:=by unfold Fl;rw[fnL_hit];rfl
theorem in_leaf {k:Nat} (h:k<70):k+1000∈nT:=mem_append_left _ (mem_map.2 ⟨k,mem_range.2 h,rfl⟩)
theorem in_lvl {k:Nat} (h:k<12):k+2000∈nT:=mem_append_right _ (mem_append_left _ (mem_map.2 ⟨k,mem_range.2 h,rfl⟩))
theorem ownL_row {L:List (List PairD)} {k:Nat}:∀r∈(ownL L k).map LE.row,∀x∈r,on (fun j=>∃i,i<k/\j=i+1000) x:=fun r hr x hx=>by
 unfold ownL at hr;rw[map_map] at hr;obtain⟨i,hi,rfl⟩:=mem_map.1 hr;have hx:x∈[D.arr (i+1000) 41 2 0 (L.getD i []).length]:=hx;rw[mem_singleton] at hx;subst hx;exact⟨i,mem_range.1 hi,rfl⟩
theorem ownU_row {U:List (List Nat)} {k:Nat}:∀r∈(ownU U k).map urow,∀x∈r,on (fun j=>∃i,i<k/\j=i+2000) x:=fun r hr x hx=>by
 unfold ownU at hr;rw[map_map] at hr;obtain⟨i,hi,rfl⟩:=mem_map.1 hr;have hx:x∈[D.arr (i+2000) 3 1 0 (U.getD i []).length]:=hx;rw[mem_singleton] at hx;subst hx;exact⟨i,mem_range.1 hi,rfl⟩
end Tr
set_option maxHeartbeats 1000000 in
theorem s_own (L:List (List PairD)) (U:List (List Nat)) (hL:L.length<=64) (hl:∀l∈L,0<l.length/\l.length<=4) (hU:U.length<=8) (hu:∀u∈U,0<u.length/\u.length<=64) :
  CallS Try.prog 13 [.agg [.c (.sl 1 (lvC L)),.c (.sl 1 (upC U))]] [] [] (.d (.ptr NK 0)) (nearT NK NK1 NK2 (ownL L L.length) (ownU U U.length)++famT (ownL L L.length) (ownU U U.length)):=by
 have hLl:(lvC L).length=L.length:=length_map _;have hUl:(upC U).length=U.length:=length_map _;refine callS_of Try.func13 (by rfl) rfl (by kernel_rfl) (by rfl) [] rfl ?_;((conv=>whnf);repeat' ((first|(with_reducible first|apply a_|apply b_|apply c_)|((with_reducible first|apply d_|apply e_|apply f_|apply g_|apply h_);first|omega|simp only[q_]<;>omega)|((with_reducible apply i_);first|omega|simp only[q_]<;>omega)|((with_reducible apply h_);first|decide|kernel_rfl)|refine s_ (by decide) ?_|refine t_ (by decide) ?_|with_reducible first|apply l_|apply m_|apply n_|apply o_|refine p_ (fun _=>?_) (fun _=>?_))<;>conv=>whnf));refine LoopC.mk Nat (fun k=>[(1,.d (.ptr 1 0)),(3,.d (.ptr 8 0)),(10,lvV L),(11,pInt .i64 L.length),(12,pInt .i64 (k:Int))])
  (fun k=>[(1,.box 25 [.c (.sl 1 (lvC L)),.c (.sl 1 (upC U))]),(8,.box 43 [.arr 150 44 1 0 k,.c (.v (.slice none 0 0))]),(150,.darr 44 1 ((ownL L k).map LE.row))]++(ownL L k).map LE.fam) ([1,8,150]++nT)
  (fun k=>k<=L.length) (fun k=>L.length - k) 0 (zero_le _) ?start ?round
 case start=>
  refine⟨[(1,1),(8,8)],rfl,rfl,⟨⟨rfl,rfl,rfl⟩,⟨rfl,rfl,rfl⟩,.inl rfl,PLe.int (by rw[hLl]),.inl rfl,trivial⟩,⟨rfl,?_⟩,⟨rfl,?_⟩,⟨rfl,?_⟩,trivial⟩
  ·exact⟨rfl,.inl rfl,.inl rfl,rfl⟩
  ·exact⟨rfl,⟨rfl,rfl,by decide,rfl,rfl⟩,.inl rfl,rfl⟩
  ·exact⟨by decide,rfl⟩
 case round=>
  intro k hk;have hk:k<=L.length:=hk;by_cases hkL:k<L.length
  ·obtain⟨l,hle⟩:∃l,l=L[k]:=⟨_,rfl⟩;obtain⟨hl0,hl4⟩:=hl l (by rw[hle];exact List.getElem_mem hkL);have hrow:(lvC L)[k]? = some [.sl 2 (l.map PairD.c)]:=by
    unfold lvC;rw[List.getElem?_map,List.getElem?_eq_getElem hkL,hle];rfl
   have hlm:(l.map PairD.c).length=l.length:=length_map _;have sc:=s_clone_pair (l.map PairD.c) (by intro e;rw[e] at hlm;simp at hlm;omega) (by omega);have n1:k<=((ownL L k).map LE.row).length:=by rw[length_map,ownL_len];exact Nat.le_refl _
   have n2:(k+1)*24<=140737488355328:=by omega
   ((conv=>whnf);repeat' ((first|(with_reducible first|apply a_|apply b_|apply c_)|((with_reducible first|apply d_|apply e_|apply f_|apply g_|apply h_);first|omega|simp only[q_]<;>omega)|((with_reducible apply i_);first|omega|simp only[q_]<;>omega)|((with_reducible apply h_);first|decide|kernel_rfl)|refine s_ (by decide) ?_|refine t_ (by decide) ?_|(refine Idx.at' hrow rfl ?_)|(refine CallP.ret [(NK,23)] _ _ _ _ _ _ _ sc rfl rfl rfl rfl trivial ?_)|(refine Need.mk n1 ?_)|(refine Need.by1 24 rfl n2 ?_)|with_reducible first|apply l_|apply m_|apply n_|apply o_|refine p_ (fun _=>?_) (fun _=>?_))<;>conv=>whnf));all_goals first|(exfalso;omega)|skip
   have hnm:=own_nm L [] (n:=k) (m:=0) (by omega) (by omega);have hR:=nm_fam hnm;have hkR:∀x∈(famT (ownL L k) (ownU [] 0)).map Prod.fst,∃i,i<k/\x=i+1000:=fun x hx=>by
    rw[famT_keys,own_keys] at hx;rcases mem_append.1 hx with hx | hx
    ·obtain⟨i,hi,rfl⟩:=mem_map.1 hx;exact⟨i,mem_range.1 hi,rfl⟩
    ·cases hx
   have hk64:k<64:=by omega
   have f1:Fl [(150,25),(k+1000,23)] 1=1:=by rw[Fl_skip (by decide),Fl_skip (by omega)];rfl
   have f8:Fl [(150,25),(k+1000,23)] 8=8:=by rw[Fl_skip (by decide),Fl_skip (by omega)];rfl
   have f150:Fl [(150,25),(k+1000,23)] 150=25:=Fl_hit;have fk:Fl [(150,25),(k+1000,23)] (k+1000)=23:=by rw[Fl_skip (by omega)];exact Fl_hit
   have hgk:L.getD k []=l:=by rw[hle,List.getD_eq_getElem?_getD,List.getElem?_eq_getElem hkL];rfl
   have m:∀j∈[1,8,150]++nT,fnL (mR (Fl [(150,25),(k+1000,23)]) ([1,8,150]++nT)) j=some (Fl [(150,25),(k+1000,23)] j):=fun j hj=>mR_in hj;refine⟨k+1,hkL,by show L.length - (k+1)<L.length - k;omega,wk_sub (wk_push hR (famT_no _ _) [] [1,8,150] [(150,25),(k+1000,23)] (lz:=[])
    (out:=[(1,.box 25 [.c (.sl 1 (lvC L)),.c (.sl 1 (upC U))]),(8,.box 43 [.arr 150 44 1 0 (k+1),.c (.v (.slice none 0 0))]),(150,.darr 44 1 ((ownL L (k+1)).map LE.row)),(k+1000,leafH l)])
    (fun x hx=>?_) ?_ (fun q hq=>?_) (fun q hq=>(by cases hq)) (fun q hq=>?_) (fun q hq=>?_) ?_) (fun q hq=>?_)⟩
   ·obtain⟨i,hi,rfl⟩:=hkR x hx;rw[fnL_skip (by omega),fnL_skip (by omega)];rfl
   ·show apart [Fl [(150,25),(k+1000,23)] 1,Fl [(150,25),(k+1000,23)] 8,Fl [(150,25),(k+1000,23)] 150,Fl [(150,25),(k+1000,23)] (k+1000)]=true;rw[f1,f8,f150,fk];rfl
   ·simp only[mem_cons,not_mem_nil,or_false] at hq;rcases hq with rfl | rfl | rfl | rfl
    ·exact mem_append_left _ (show 1∈[1,8,150] by decide)
    ·exact mem_append_left _ (show 8∈[1,8,150] by decide)
    ·exact mem_append_left _ (show 150∈[1,8,150] by decide)
    ·exact mem_append_right _ (in_leaf (by omega))
   ·have hb:=(hR.keys q hq).1;repeat refine app_fam rfl hb ?_
    refine (congrArg (fun r=>hpL r q.1) ?_).trans (hR.past (a:=[(1,.box 25 [.c (.sl 1 (lvC L)),.c (.sl 1 (upC U))]),(8,.box 43 [.arr 150 44 1 0 k,.c (.v (.slice none 0 0))]),(150,.darr 44 1 ((ownL L k).map LE.row))]) rfl hq);show _++(ownL L k).map LE.fam=_++((ownL L k).map LE.fam++[]);rw[List.append_nil]
   ·simp only[mem_cons,not_mem_nil,or_false] at hq;rcases hq with rfl | rfl | rfl | rfl
    ·rw[f1];exact⟨_,rfl,rfl,.inl rfl,.inl rfl,rfl⟩
    ·rw[f8];exact⟨_,rfl,rfl,⟨rfl,m 150 (by decide),rfl,rfl,rfl,rfl⟩,.inl rfl,rfl⟩
    ·rw[f150];refine⟨_,rfl,rfl,rfl,?_⟩;rw[ownL_succ,map_append];refine dless_join ?_ ⟨⟨⟨kin_iff.2 (show k+1000∈[1,8,150]++nT from mem_append_right _ (in_leaf (by omega))),(m (k+1000) (mem_append_right _ (in_leaf (by omega)))).trans (congrArg some fk),rfl,rfl,rfl,?_⟩,rfl⟩,rfl⟩
     ·rw[take_of_length_le (by rw[length_map,ownL_len];exact Nat.le_refl _)];refine dless_fix (fun _ h=>h) fun r hr x hx=>on_imp ?_ (ownL_row r hr x hx);rintro j ⟨i,hi,rfl⟩;exact⟨mem_append_right _ (in_leaf (by omega)),by rw[Fl_skip (by omega),Fl_skip (by omega)];rfl⟩
     ·show (l.map PairD.c).length=(L.getD k []).length;rw[hgk,hlm]
    ·rw[fk];exact⟨_,rfl,rfl,rfl,rfl⟩
   ·exact⟨⟨rfl,m 1 (by decide),rfl⟩,⟨rfl,m 8 (by decide),rfl⟩,.inl rfl,.inl rfl,PLe.int (by push_cast;rfl),trivial⟩
   ·show q∈[]++([_,_,_,(k+1000,leafH l)]++((ownL L k).map LE.fam++[]));rw[List.append_nil,nil_append];have hq:q∈[_,_,_]++(ownL L (k+1)).map LE.fam:=hq;rcases mem_append.1 hq with hq | hq
    ·refine mem_append_left _ ?_;simp only[mem_cons,not_mem_nil,or_false] at hq ⊢;rcases hq with h | h | h
     ·exact .inl h
     ·exact .inr (.inl h)
     ·exact .inr (.inr (.inl h))
    ·rw[ownL_succ,map_append] at hq;rcases mem_append.1 hq with hq | hq
     ·exact mem_append_right _ hq
     ·refine mem_append_left _ ?_;have hq:q∈[(k+1000,leafH (L.getD k []))]:=hq;rw[mem_singleton,hgk] at hq;simp only[mem_cons,not_mem_nil,or_false];exact .inr (.inr (.inr hq))
  ·obtain⟨es,hes⟩:∃es,es=ownL L L.length:=⟨_,rfl⟩;have hkk:k=L.length:=by omega
   rw[hkk,<- hes];have hesl:es.length=L.length:=by rw[hes];exact ownL_len _ _
   have hesr:∀r∈es.map LE.row,∀x∈r,on (fun j=>∃i,i<L.length/\j=i+1000) x:=by rw[hes];exact ownL_row
   have hnmk:∀k,k<=U.length->NmT es (ownU U k):=fun k hk=>by rw[hes];exact own_nm L U (by omega) (by omega)
   have hekey:∀x∈es.map LE.k,∃i,i<L.length/\x=i+1000:=fun x hx=>by
    rw[hes] at hx;unfold ownL at hx;rw[map_map] at hx;obtain⟨i,hi,rfl⟩:=mem_map.1 hx;exact⟨i,mem_range.1 hi,rfl⟩
   have hkRk:∀k,∀x∈(famT es (ownU U k)).map Prod.fst,(∃i,i<L.length/\x=i+1000)\/∃i,i<k/\x=i+2000:=fun k x hx=>by
    rw[famT_keys] at hx;rcases mem_append.1 hx with hx | hx
    ·exact .inl (hekey x hx)
    ·right;unfold ownU at hx;rw[map_map] at hx;obtain⟨i,hi,rfl⟩:=mem_map.1 hx;exact⟨i,mem_range.1 hi,rfl⟩
   ((conv=>whnf);repeat' ((first|(with_reducible first|apply a_|apply b_|apply c_)|((with_reducible first|apply d_|apply e_|apply f_|apply g_|apply h_);first|omega|simp only[q_]<;>omega)|((with_reducible apply i_);first|omega|simp only[q_]<;>omega)|((with_reducible apply h_);first|decide|kernel_rfl)|refine s_ (by decide) ?_|refine t_ (by decide) ?_|with_reducible first|apply l_|apply m_|apply n_|apply o_|refine p_ (fun _=>?_) (fun _=>?_))<;>conv=>whnf));all_goals first|(exfalso;omega)|skip
   refine LoopC.mk Nat (fun k=>[(3,.d (.ptr 8 0)),(31,.d (.c (.sl 1 (upC U)))),(32,pInt .i64 U.length),(33,pInt .i64 (k:Int))])
    (fun k=>[(8,.box 43 [.arr 150 44 1 0 L.length,.arr 151 61 1 0 k]),(150,.darr 44 1 (es.map LE.row)),(151,.darr 61 1 ((ownU U k).map urow))]++famT es (ownU U k)) ([151]++([8,150]++nT))
    (fun k=>k<=U.length) (fun k=>U.length - k) 0 (zero_le _) ?start2 ?round2
   case start2=>
    have hR:=nm_fam (hnmk 0 (zero_le _));have m:∀j∈[8,150]++nT,fnL (mR (Fl []) ([8,150]++nT)) j=some j:=fun j hj=>mR_in hj;refine wk_sub (wk_push hR (famT_no _ _) [151] [8,150] [] (lz:=[(151,.darr 61 1 [])])
     (out:=[(8,.box 43 [.arr 150 44 1 0 L.length,.arr 151 61 1 0 0]),(150,.darr 44 1 (es.map LE.row))])
     (fun x hx=>rfl) rfl (fun q hq=>?_) (fun q hq=>?_) (fun q hq=>?_) (fun q hq=>?_) ?_) (fun q hq=>?_)
    ·simp only[mem_cons,not_mem_nil,or_false] at hq;rcases hq with rfl | rfl
     ·exact mem_append_left _ (show 8∈[8,150] by decide)
     ·exact mem_append_left _ (show 150∈[8,150] by decide)
    ·rw[mem_singleton] at hq;subst hq;refine⟨mem_singleton.2 rfl,fun hm=>?_,_,_,rfl,by decide⟩;rcases mem_append.1 hm with hm | hm
     ·exact absurd (show 151∈[8,150] from hm) (by decide)
     ·exact farK_out (show farK 151=true from rfl) hm
    ·have hb:=(hR.keys q hq).1;repeat refine app_fam rfl hb ?_
     refine (congrArg (fun r=>hpL r q.1) ?_).trans (hR.past (a:=[(1,.box 25 [.c (.sl 1 (lvC L)),.c (.sl 1 (upC U))]),(8,.box 43 [.arr 150 44 1 0 L.length,.c (.v (.slice none 0 0))]),(150,.darr 44 1 (es.map LE.row))]) rfl hq);show _++es.map LE.fam=_++(es.map LE.fam++[]);rw[List.append_nil]
    ·simp only[mem_cons,not_mem_nil,or_false] at hq;rcases hq with rfl | rfl
     ·refine⟨_,rfl,rfl,⟨rfl,m 150 (by decide),rfl,rfl,rfl,rfl⟩,⟨rfl,rfl,by decide,rfl,rfl⟩,rfl⟩
     ·refine⟨_,rfl,rfl,rfl,dless_fix (fun j h=>mem_append_right _ h) fun r hr x hx=>on_imp ?_ (hesr r hr x hx)⟩;rintro j ⟨i,hi,rfl⟩;exact⟨mem_append_right _ (in_leaf (by omega)),rfl⟩
    ·exact⟨⟨rfl,m 8 (by decide),rfl⟩,.inl rfl,PLe.int (by rw[hUl]),.inl rfl,trivial⟩
    ·have hq:q∈[_,_,(151,_)]++famT es (ownU U 0):=hq;show q∈[(151,_)]++([_,_]++famT es (ownU U 0));rcases mem_append.1 hq with hq | hq
     ·simp only[mem_cons,not_mem_nil,or_false] at hq;rcases hq with h | h | h
      ·exact mem_append_right _ (mem_append_left _ (by rw[h];simp))
      ·exact mem_append_right _ (mem_append_left _ (by rw[h];simp))
      ·exact mem_append_left _ (by rw[h];exact mem_singleton.2 rfl)
     ·exact mem_append_right _ (mem_append_right _ hq)
   case round2=>
    intro j hj;have hj:j<=U.length:=hj;have hR:=nm_fam (hnmk j hj);by_cases hjU:j<U.length
    ·obtain⟨u,hue⟩:∃u,u=U[j]:=⟨_,rfl⟩;obtain⟨hu0,hu4⟩:=hu u (by rw[hue];exact List.getElem_mem hjU);have hrow:(upC U)[j]? = some [.sl 1 (u.map natC)]:=by
      unfold upC;rw[List.getElem?_map,List.getElem?_eq_getElem hjU,hue];rfl
     have hum:(u.map natC).length=u.length:=length_map _;have sc:=s_clone_int (u.map natC) (by intro e;rw[e] at hum;simp at hum;omega) (by omega);have n1:j<=((ownU U j).map urow).length:=by rw[length_map,ownU_len];exact Nat.le_refl _
     have n2:(j+1)*24<=140737488355328:=by omega
     ((conv=>whnf);repeat' ((first|(with_reducible first|apply a_|apply b_|apply c_)|((with_reducible first|apply d_|apply e_|apply f_|apply g_|apply h_);first|omega|simp only[q_]<;>omega)|((with_reducible apply i_);first|omega|simp only[q_]<;>omega)|((with_reducible apply h_);first|decide|kernel_rfl)|refine s_ (by decide) ?_|refine t_ (by decide) ?_|(refine Idx.at' hrow rfl ?_)|(refine CallP.ret [(NK,44)] _ _ _ _ _ _ _ sc rfl rfl rfl rfl trivial ?_)|(refine Need.mk n1 ?_)|(refine Need.by1 24 rfl n2 ?_)|with_reducible first|apply l_|apply m_|apply n_|apply o_|refine p_ (fun _=>?_) (fun _=>?_))<;>conv=>whnf));all_goals first|(exfalso;omega)|skip
     have hj8:j<8:=by omega
     have f8:Fl [(151,46),(j+2000,44)] 8=8:=by rw[Fl_skip (by decide),Fl_skip (by omega)];rfl
     have f150:Fl [(151,46),(j+2000,44)] 150=150:=by rw[Fl_skip (by decide),Fl_skip (by omega)];rfl
     have f151:Fl [(151,46),(j+2000,44)] 151=46:=Fl_hit;have fk:Fl [(151,46),(j+2000,44)] (j+2000)=44:=by rw[Fl_skip (by omega)];exact Fl_hit
     have hgk:U.getD j []=u:=by rw[hue,List.getD_eq_getElem?_getD,List.getElem?_eq_getElem hjU];rfl
     have m:∀k∈[151,8,150]++nT,fnL (mR (Fl [(151,46),(j+2000,44)]) ([151,8,150]++nT)) k=some (Fl [(151,46),(j+2000,44)] k):=fun k hk=>mR_in hk;refine⟨j+1,hjU,by show U.length - (j+1)<U.length - j;omega,wk_sub (wk_push hR (famT_no _ _) [] [151,8,150] [(151,46),(j+2000,44)] (lz:=[])
      (out:=[(8,.box 43 [.arr 150 44 1 0 L.length,.arr 151 61 1 0 (j+1)]),(150,.darr 44 1 (es.map LE.row)),(151,.darr 61 1 ((ownU U (j+1)).map urow)),(j+2000,lvlH u)])
      (fun x hx=>?_) ?_ (fun q hq=>?_) (fun q hq=>(by cases hq)) (fun q hq=>?_) (fun q hq=>?_) ?_) (fun q hq=>?_)⟩
     ·rcases hkRk j x hx with ⟨i,hi,rfl⟩ | ⟨i,hi,rfl⟩
      ·rw[fnL_skip (by omega),fnL_skip (by omega)];rfl
      ·rw[fnL_skip (by omega),fnL_skip (by omega)];rfl
     ·show apart [Fl [(151,46),(j+2000,44)] 8,Fl [(151,46),(j+2000,44)] 150,Fl [(151,46),(j+2000,44)] 151,Fl [(151,46),(j+2000,44)] (j+2000)]=true;rw[f8,f150,f151,fk];rfl
     ·simp only[mem_cons,not_mem_nil,or_false] at hq;rcases hq with rfl | rfl | rfl | rfl
      ·exact mem_append_left _ (show 8∈[151,8,150] by decide)
      ·exact mem_append_left _ (show 150∈[151,8,150] by decide)
      ·exact mem_append_left _ (show 151∈[151,8,150] by decide)
      ·exact mem_append_right _ (in_lvl (by omega))
     ·have hb:=(hR.keys q hq).1;repeat refine app_fam rfl hb ?_
      exact hR.past (a:=[(8,.box 43 [.arr 150 44 1 0 L.length,.arr 151 61 1 0 j]),(150,.darr 44 1 (es.map LE.row)),(151,.darr 61 1 ((ownU U j).map urow))]) rfl hq
     ·simp only[mem_cons,not_mem_nil,or_false] at hq;rcases hq with rfl | rfl | rfl | rfl
      ·rw[f8];exact⟨_,rfl,rfl,⟨rfl,(m 150 (by decide)).trans (congrArg some f150),rfl,rfl,rfl,rfl⟩,⟨rfl,m 151 (by decide),rfl,rfl,rfl,rfl⟩,rfl⟩
      ·rw[f150];refine⟨_,rfl,rfl,rfl,dless_fix (fun _ h=>h) fun r hr x hx=>on_imp ?_ (hesr r hr x hx)⟩;rintro i0 ⟨i,hi,rfl⟩;exact⟨mem_append_right _ (in_leaf (by omega)),by rw[Fl_skip (by omega),Fl_skip (by omega)];rfl⟩
      ·rw[f151];refine⟨_,rfl,rfl,rfl,?_⟩;rw[ownU_succ,map_append];refine dless_join ?_ ⟨⟨⟨kin_iff.2 (show j+2000∈[151,8,150]++nT from mem_append_right _ (in_lvl (by omega))),(m (j+2000) (mem_append_right _ (in_lvl (by omega)))).trans (congrArg some fk),rfl,rfl,rfl,?_⟩,rfl⟩,rfl⟩
       ·rw[take_of_length_le (by rw[length_map,ownU_len];exact Nat.le_refl _)];refine dless_fix (fun _ h=>h) fun r hr x hx=>on_imp ?_ (ownU_row r hr x hx);rintro i0 ⟨i,hi,rfl⟩;exact⟨mem_append_right _ (in_lvl (by omega)),by rw[Fl_skip (by omega),Fl_skip (by omega)];rfl⟩
       ·show (u.map natC).length=(U.getD j []).length;rw[hgk,hum]
      ·rw[fk];exact⟨_,rfl,rfl,rfl,rfl⟩
     ·exact⟨⟨rfl,(m 8 (by decide)).trans (congrArg some f8),rfl⟩,.inl rfl,.inl rfl,PLe.int (by push_cast;rfl),trivial⟩
     ·show q∈[]++([_,_,_,(j+2000,lvlH u)]++famT es (ownU U j));have hq:q∈[_,_,_]++famT es (ownU U (j+1)):=hq;rw[nil_append];rcases mem_append.1 hq with hq | hq
      ·refine mem_append_left _ ?_;simp only[mem_cons,not_mem_nil,or_false] at hq ⊢;rcases hq with h | h | h
       ·exact .inl h
       ·exact .inr (.inl h)
       ·exact .inr (.inr (.inl h))
      ·rcases mem_append.1 hq with hq | hq
       ·exact mem_append_right _ (mem_append_left _ hq)
       ·rw[ownU_succ,map_append] at hq;rcases mem_append.1 hq with hq | hq
        ·exact mem_append_right _ (mem_append_right _ hq)
        ·refine mem_append_left _ ?_;have hq:q∈[(j+2000,lvlH (U.getD j []))]:=hq;rw[mem_singleton,hgk] at hq;simp only[mem_cons,not_mem_nil,or_false];exact .inr (.inr (.inr hq))
    ·have hjj:j=U.length:=by omega
     rw[hjj] at hR ⊢;((conv=>whnf);repeat' ((first|(with_reducible first|apply a_|apply b_|apply c_)|((with_reducible first|apply d_|apply e_|apply f_|apply g_|apply h_);first|omega|simp only[q_]<;>omega)|((with_reducible apply i_);first|omega|simp only[q_]<;>omega)|((with_reducible apply h_);first|decide|kernel_rfl)|refine s_ (by decide) ?_|refine t_ (by decide) ?_|with_reducible first|apply l_|apply m_|apply n_|apply o_|refine p_ (fun _=>?_) (fun _=>?_))<;>conv=>whnf));all_goals first|(exfalso;omega)|skip
     refine ret_sub (ret_fam hR [] [(NK,8),(NK1,150),(NK2,151)] (out:=nearT NK NK1 NK2 es (ownU U U.length)) rfl (fun q hq=>?_) ⟨⟨_,rfl,?_⟩,⟨_,rfl,?_⟩,⟨_,rfl,?_⟩,trivial⟩ ?_) (fun q hq=>?_) (fun k hk=>(by cases hk))
     ·have hb:=(hR.keys q hq).1;repeat refine app_fam rfl hb ?_
      exact hR.past (a:=[(8,.box 43 [.arr 150 44 1 0 L.length,.arr 151 61 1 0 U.length]),(150,.darr 44 1 (es.map LE.row)),(151,.darr 61 1 ((ownU U U.length).map urow))]) rfl hq
     ·rw[hesl,ownU_len];exact⟨rfl,⟨rfl,rfl,rfl,rfl,rfl,rfl⟩,⟨rfl,rfl,rfl,rfl,rfl,rfl⟩,rfl⟩
     ·refine⟨rfl,rfl,dless_fix (fun j h=>h) fun r hr x hx=>on_imp ?_ (hesr r hr x hx)⟩;rintro i0 ⟨i,hi,rfl⟩;exact⟨mem_append_right _ (mem_append_right _ (in_leaf (by omega))),Fl_out rfl (in_leaf (by omega))⟩
     ·refine⟨rfl,rfl,dless_fix (fun j h=>h) fun r hr x hx=>on_imp ?_ (ownU_row r hr x hx)⟩;rintro i0 ⟨i,hi,rfl⟩;exact⟨mem_append_right _ (mem_append_right _ (in_lvl (by omega))),Fl_out rfl (in_lvl (by omega))⟩
     ·exact⟨rfl,rfl,rfl⟩
     ·have hq:q∈nearT NK NK1 NK2 es (ownU U U.length)++famT es (ownU U U.length):=hq;rcases mem_append.1 hq with hq | hq
      ·exact mem_append_right _ hq
      ·exact mem_append_left _ hq
end
section
open Go.RowKit K
open Tr
abbrev tIn (es:List LE) (us:List UE):Rf:=nearT FK FK1 FK2 es us++famT es us
abbrev tOut (es:List LE) (us:List UE):Rf:=nearT FK NK1 NK2 es us++famT es us
abbrev namesT (es:List LE) (us:List UE):List Nat:=es.map LE.k++us.map Prod.fst
def LE.ok (e:LE):Prop:=e.lo+e.n<=e.a.length
def LE.mv (F:Nat->Nat) (e:LE):LE:=⟨F e.k,e.lo,e.n,e.a⟩
def umv (F:Nat->Nat) (p:UE):UE:=(F p.1,p.2)
namespace Tr
theorem row_mv (F:Nat->Nat) (es:List LE):(es.map LE.row).map (List.map (mp F))=(es.map (LE.mv F)).map LE.row:=by
 rw[map_map,map_map];rfl
theorem urow_mv (F:Nat->Nat) (us:List UE):(us.map urow).map (List.map (mp F))=(us.map (umv F)).map urow:=by
 rw[map_map,map_map];rfl
theorem mv_same {F:Nat->Nat} {es:List LE} (h:∀e∈es,F e.k=e.k):es.map (LE.mv F)=es:=by
 conv=>rhs;rw[<- map_id es]
 refine map_congr_left fun e he=>?_;show (⟨F e.k,e.lo,e.n,e.a⟩:LE)=e;rw[h e he]
theorem umv_same {F:Nat->Nat} {us:List UE} (h:∀p∈us,F p.1=p.1):us.map (umv F)=us:=by
 conv=>rhs;rw[<- map_id us]
 refine map_congr_left fun p hp=>?_;show (F p.1,p.2)=p;rw[h p hp]
theorem fam_mv (F:Nat->Nat) (es:List LE) (us:List UE):(famT es us).map (qmp F)=famT (es.map (LE.mv F)) (us.map (umv F)):=by
 show _=(es.map (LE.mv F)).map LE.fam++(us.map (umv F)).map ufam;rw[map_append,map_map,map_map,map_map,map_map]
 congr 1
 ·refine map_congr_left fun e _=>?_;show (F e.k,hmp F (leafH e.a))=(F e.k,leafH e.a);rw[hmp_leaf]
 ·refine map_congr_left fun p _=>?_;show (F p.1,hmp F (lvlH p.2))=(F p.1,lvlH p.2);rw[hmp_lvl]
theorem near_mv (F:Nat->Nat) (b l u:Nat) (es:List LE) (us:List UE):(nearT b l u es us).map (qmp F)=nearT (F b) (F l) (F u) (es.map (LE.mv F)) (us.map (umv F)):=by
 show [_,_,_]=[_,_,_];rw[<- row_mv,<- urow_mv,length_map,length_map];rfl
theorem row_on (es:List LE) (us:List UE):∀r∈es.map LE.row,∀x∈r,on (·∈namesT es us) x:=fun r hr x hx=>by
 obtain⟨e,he,rfl⟩:=mem_map.1 hr;have hx:x∈[D.arr e.k 41 2 e.lo e.n]:=hx;rw[mem_singleton] at hx;subst hx;exact mem_append_left _ (mem_map.2 ⟨e,he,rfl⟩)
theorem urow_on (es:List LE) (us:List UE):∀r∈us.map urow,∀x∈r,on (·∈namesT es us) x:=fun r hr x hx=>by
 obtain⟨e,he,rfl⟩:=mem_map.1 hr;have hx:x∈[D.arr e.1 3 1 0 e.2.length]:=hx;rw[mem_singleton] at hx;subst hx;exact mem_append_right _ (mem_map.2 ⟨e,he,rfl⟩)
theorem clR_leaves {H:Hp}:∀{es:List LE},(∀e∈es,H e.k=some (leafH e.a)/\e.ok)->ClR H (es.map LE.row) (lvC (es.map LE.val))
 | [],_=>by show ClR H [] [];unfold ClR;rfl
 | e::es,h=>by
  obtain⟨h1,h2⟩:=h e mem_cons_self;show ClR H ([D.arr e.k 41 2 e.lo e.n]::es.map LE.row) ([C.sl 2 (e.val.map PairD.c)]::lvC (es.map LE.val));unfold ClR;refine⟨?_,clR_leaves fun x hx=>h x (mem_cons_of_mem _ hx)⟩;unfold ClL;refine⟨?_,by unfold ClL;rfl⟩;unfold D.closeA;dsimp only;rw[h1];unfold leafH;refine⟨e.a.map PairD.c,rfl,by rw[length_map];exact h2,?_⟩;unfold LE.val;rw[map_take,map_drop]
theorem clR_levels {H:Hp}:∀{us:List UE},(∀p∈us,H p.1=some (lvlH p.2))->ClR H (us.map urow) (upC (us.map Prod.snd))
 | [],_=>by show ClR H [] [];unfold ClR;rfl
 | p::us,h=>by
  have h1:=h p mem_cons_self;show ClR H ([D.arr p.1 3 1 0 p.2.length]::us.map urow) ([C.sl 1 (p.2.map natC)]::upC (us.map Prod.snd));unfold ClR;refine⟨?_,clR_levels fun x hx=>h x (mem_cons_of_mem _ hx)⟩;unfold ClL;refine⟨?_,by unfold ClL;rfl⟩;unfold D.closeA;dsimp only;rw[h1];unfold lvlH;refine⟨p.2.map natC,rfl,by rw[length_map];omega,?_⟩;rw[drop_zero,take_of_length_le (by rw[length_map];exact Nat.le_refl _)]
theorem close_tree {H:Hp} {l u:Nat} {es:List LE} {us:List UE} {K:List C->Prop} (h1:H l=some (.darr 44 1 (es.map LE.row))) (h2:H u=some (.darr 61 1 (us.map urow))) (hf:∀q∈famT es us,H q.1=some q.2) (hok:∀e∈es,e.ok)
  (hk:K [.sl 1 (lvC (es.map LE.val)),.sl 1 (upC (us.map Prod.snd))]):closeHL H [.arr l 44 1 0 es.length,.arr u 61 1 0 us.length] K:=by
 unfold closeHL D.closeH;dsimp only;rw[h1];refine RowsC.mk _ (clR_leaves fun e he=>⟨hf _ (mem_append_left _ (mem_map.2 ⟨e,he,rfl⟩)),hok e he⟩) (Need.mk (by unfold lvC;rw[length_map,length_map];omega) ?_);unfold closeHL D.closeH;dsimp only;rw[h2];refine RowsC.mk _ (clR_levels fun e he=>hf _ (mem_append_right _ (mem_map.2 ⟨e,he,rfl⟩))) (Need.mk (by unfold upC;rw[length_map,length_map];omega) ?_);unfold closeHL;rw[drop_zero,drop_zero,take_of_length_le (by unfold lvC;rw[length_map,length_map];exact Nat.le_refl _),take_of_length_le (by unfold upC;rw[length_map,length_map];exact Nat.le_refl _)];exact hk
theorem tIn_keys (b l u:Nat) (es:List LE) (us:List UE):(nearT b l u es us++famT es us).map Prod.fst=[b,l,u]++namesT es us:=by
 rw[map_append,famT_keys];rfl
theorem tIn_nd {b l u:Nat} (h:apart [b,l,u]=true) {es:List LE} {us:List UE} (hn:NmT es us):((nearT b l u es us++famT es us).map Prod.fst).Nodup:=by
 rw[tIn_keys];refine nodup_append.2 ⟨?_,hn.nd,fun x hx y hy e=>?_⟩
 ·unfold apart apart apart at h;simp only[all_cons,List.all_nil,Bool.and_true,Bool.and_eq_true,Bool.not_eq_true'] at h;have ne:∀{a b:Nat},Nat.beq a b=false->a≠b:=fun {a b} h e=>by subst e;rw[beq_refl] at h;cases h
  have h1:=ne h.2.1.1;have h2:=ne h.2.1.2;have h3:=ne h.2.2.2.1;simp only[nodup_cons,mem_cons,not_mem_nil,or_false,not_or,not_false_eq_true,List.nodup_nil,and_true];exact⟨⟨fun e=>h1 e.symm,fun e=>h2 e.symm⟩,fun e=>h3 e.symm⟩
 ·subst e;exact farK_out (apart_far h x hx) (hn.inn x hy)
theorem look_near {b l u:Nat} (h:apart [b,l,u]=true) {es:List LE} {us:List UE} (hn:NmT es us):∀q∈nearT b l u es us++famT es us,hpL (nearT b l u es us++famT es us) q.1=some q.2:=nodup_look (tIn_nd h hn)
theorem lend_tree {es:List LE} {us:List UE} (hn:NmT es us) (hok:∀e∈es,e.ok):lendV (hpL (tIn es us)) (.d (.ptr FK 0)) (roV (es.map LE.val) (us.map Prod.snd)):=
 .inr ⟨FK,_,_,_,rfl,rfl,close_tree (look_near rfl hn (FK1,_) (by simp)) (look_near rfl hn (FK2,_) (by simp)) (fun q hq=>look_near rfl hn q (mem_append_right _ hq)) hok rfl,rfl⟩
theorem call_tree {P:Program} {f:FuncId} {args args0:List PV} {h:Hp} {K:OpK} {X:Value->Hp->Prop} {res:PV} {es es':List LE} {us us':List UE} (hs:CallS P f args0 [] (tIn es us) res (tOut es' us')) (F:Nat->Nat)
  (hn:NmT es us) (hn':NmT es' us') (hinj:∀a∈[FK,FK1,FK2,NK1,NK2]++(namesT es us++namesT es' us'),∀b∈[FK,FK1,FK2,NK1,NK2]++(namesT es us++namesT es' us'),F a=F b->a=b)
  (hao:∀x∈args0,pon (· = FK) x) (hro:pon (fun _=>False) res) (ha:args0.map (pmp F)=args) (hh:∀q∈nearT (F FK) (F FK1) (F FK2) (es.map (LE.mv F)) (us.map (umv F))++famT (es.map (LE.mv F)) (us.map (umv F)),h q.1=some q.2)
  (hk:K res (deltaOf (nearT (F FK) (F FK1) (F FK2) (es.map (LE.mv F)) (us.map (umv F))++famT (es.map (LE.mv F)) (us.map (umv F))) (nearT (F FK) (F NK1) (F NK2) (es'.map (LE.mv F)) (us'.map (umv F))++famT (es'.map (LE.mv F)) (us'.map (umv F)))) (nearT (F FK) (F FK1) (F FK2) (es.map (LE.mv F)) (us.map (umv F))++famT (es.map (LE.mv F)) (us.map (umv F)))):CallP P f args h K X:=by
 have e1:(tIn es us).map (qmp F)=nearT (F FK) (F FK1) (F FK2) (es.map (LE.mv F)) (us.map (umv F))++famT (es.map (LE.mv F)) (us.map (umv F)):=by rw[map_append,near_mv,fam_mv]
 have e2:(tOut es' us').map (qmp F)=nearT (F FK) (F NK1) (F NK2) (es'.map (LE.mv F)) (us'.map (umv F))++famT (es'.map (LE.mv F)) (us'.map (umv F)):=by rw[map_append,near_mv,fam_mv]
 have hks:∀k,k∈[FK,FK1,FK2]++namesT es us++([FK,NK1,NK2]++namesT es' us')↔k∈([]++(tIn es us++tOut es' us')).map Prod.fst:=fun k=>by
  rw[nil_append,map_append,tIn_keys,tIn_keys]
 have hsub:∀k,k∈[FK,FK1,FK2]++namesT es us++([FK,NK1,NK2]++namesT es' us')->k∈[FK,FK1,FK2,NK1,NK2]++(namesT es us++namesT es' us'):=fun k hk=>by
  simp only[mem_append,mem_cons,not_mem_nil,or_false] at hk ⊢;rcases hk with ((h | h | h) | h | h) | ((h | h | h) | h | h)<;>simp[h]
 refine call_mp F hs (tIn_nd rfl hn) (tIn_nd rfl hn') _ hks (fun a ha b hb e=>hinj a (hsub a ha) b (hsub b hb) e) (fun q hq=>?_) (fun x hx=>pon_imp (fun k (hk:k=FK)=>by rw[hk];simp) (hao x hx)) (pon_imp (fun k (hk:False)=>hk.elim) hro) ha (fun q hq=>?_) ?_
 ·have A:∀k∈namesT es us,k∈[FK,FK1,FK2]++namesT es us++([FK,NK1,NK2]++namesT es' us'):=fun k hk=>mem_append_left _ (mem_append_right _ hk);have B:∀k∈namesT es' us',k∈[FK,FK1,FK2]++namesT es us++([FK,NK1,NK2]++namesT es' us'):=fun k hk=>mem_append_right _ (mem_append_right _ hk);rw[nil_append] at hq;rcases mem_append.1 hq with hq | hq<;>rcases mem_append.1 hq with hq | hq
  ·simp only[mem_cons,not_mem_nil,or_false] at hq;rcases hq with rfl | rfl | rfl
   ·intro x hx;simp only[mem_cons,not_mem_nil,or_false] at hx;rcases hx with rfl | rfl
    ·show FK1∈_;simp
    ·show FK2∈_;simp
   ·exact fun r hr x hx=>on_imp A (row_on es us r hr x hx)
   ·exact fun r hr x hx=>on_imp A (urow_on es us r hr x hx)
  ·exact hon_imp (fun k (hk:False)=>hk.elim) (famT_no es us q hq)
  ·simp only[mem_cons,not_mem_nil,or_false] at hq;rcases hq with rfl | rfl | rfl
   ·intro x hx;simp only[mem_cons,not_mem_nil,or_false] at hx;rcases hx with rfl | rfl
    ·show NK1∈_;simp
    ·show NK2∈_;simp
   ·exact fun r hr x hx=>on_imp B (row_on es' us' r hr x hx)
   ·exact fun r hr x hx=>on_imp B (urow_on es' us' r hr x hx)
  ·exact hon_imp (fun k (hk:False)=>hk.elim) (famT_no es' us' q hq)
 ·rw[nil_append] at hq;have:=hh (qmp F q) (by rw[<- e1];exact mem_map.2 ⟨q,hq,rfl⟩);exact this
 ·rw[e1,e2];have hres:pmp F res=res:=by
   cases res with
   | d x=>exact congrArg PV.d (mp_same (p:=fun _=>False) (fun _ h=>h.elim) hro)|agg l=>exact congrArg PV.agg (by
     conv=>rhs;rw[<- map_id l]
     exact map_congr_left fun x hx=>mp_same (p:=fun _=>False) (fun _ h=>h.elim) (hro x hx))
   | tup l=>rfl|any=>rfl
  rw[hres];exact hk
theorem app_add:∀{out:Rf} {h:Hp} {k:Nat},(out.map Prod.fst).Nodup->Dl.app h (out.map fun p=>(p.1,some p.2)) k=match hpL out k with | some b=>some b | none=>h k
 | [],h,k,_=>rfl|(q,b)::out,h,k,hn=>by
  rw[map_cons] at hn;obtain⟨h1,h2⟩:=nodup_cons.1 hn;show Dl.app (upd h q (some b)) (out.map fun p=>(p.1,some p.2)) k=match (bif Nat.beq k q then some b else hpL out k) with | some b=>some b | none=>h k
  rw[app_add h2];by_cases e:k=q
  ·subst e;rw[beq_refl,hpL_none h1,upd_same];rfl
  ·rw[nbeq e,upd_ne _ _ e];rfl
theorem app_del:∀{r:Rf} {h:Hp} {k:Nat},k∉r.map Prod.fst->Dl.app h (r.map fun p=>(p.1,none)) k=h k
 | [],h,k,_=>rfl|(q,b)::r,h,k,hn=>by
  show Dl.app (upd h q none) (r.map fun p=>(p.1,none)) k=h k;rw[app_del fun hm=>hn (mem_cons_of_mem _ hm),upd_ne _ _ fun e=>hn (by rw[e];exact mem_cons_self)]
theorem app_app:∀{a b:Dl} {h:Hp},Dl.app h (a++b)=Dl.app (Dl.app h a) b
 | [],b,h=>rfl|(k,x)::a,b,h=>by
  show Dl.app (upd h k x) (a++b)=Dl.app (Dl.app (upd h k x) a) b;rw[app_app]
theorem delta_out {rf out:Rf} {h:Hp} (hn:(out.map Prod.fst).Nodup) {q:Nat×HB} (hq:q∈out):Dl.app h (deltaOf rf out) q.1=some q.2:=by
 unfold deltaOf;rw[app_app,app_add hn,nodup_look hn q hq]
theorem delta_else {rf out:Rf} {h:Hp} (hn:(out.map Prod.fst).Nodup) {k:Nat} (h1:k∉rf.map Prod.fst) (h2:k∉out.map Prod.fst):Dl.app h (deltaOf rf out) k=h k:=by
 unfold deltaOf;rw[app_app,app_add hn,hpL_none h2,app_del h1]
end Tr
end
section
open Go.RowKit K
open Tr
namespace Tr
theorem call_ro {P:Program} {f:FuncId} {args args0:List PV} {h:Hp} {K:OpK} {X:Value->Hp->Prop} {res:PV} {es:List LE} {us:List UE} (hs:CallS P f args0 (tIn es us) [] res []) (F:Nat->Nat)
  (hn:NmT es us) (hinj:∀a∈[FK,FK1,FK2]++namesT es us,∀b∈[FK,FK1,FK2]++namesT es us,F a=F b->a=b)
  (hao:∀x∈args0,pon (· = FK) x) (hro:pon (fun _=>False) res) (ha:args0.map (pmp F)=args) (hh:∀q∈nearT (F FK) (F FK1) (F FK2) (es.map (LE.mv F)) (us.map (umv F))++famT (es.map (LE.mv F)) (us.map (umv F)),h q.1=some q.2)
  (hk:∀rf,K res [] rf):CallP P f args h K X:=by
 have e1:(tIn es us).map (qmp F)=nearT (F FK) (F FK1) (F FK2) (es.map (LE.mv F)) (us.map (umv F))++famT (es.map (LE.mv F)) (us.map (umv F)):=by rw[map_append,near_mv,fam_mv]
 have hks:∀k,k∈[FK,FK1,FK2]++namesT es us↔k∈(tIn es us++([]++[])).map Prod.fst:=fun k=>by
  rw[List.append_nil,List.append_nil,tIn_keys]
 refine call_mp F hs (by rw[List.append_nil];exact tIn_nd rfl hn) (by rw[List.append_nil];exact tIn_nd rfl hn) _ hks hinj (fun q hq=>?_) (fun x hx=>pon_imp (fun k (hk:k=FK)=>by rw[hk];simp) (hao x hx)) (pon_imp (fun k (hk:False)=>hk.elim) hro) ha (fun q hq=>?_) ?_
 ·have A:∀k∈namesT es us,k∈[FK,FK1,FK2]++namesT es us:=fun k hk=>mem_append_right _ hk;rw[List.append_nil,List.append_nil] at hq;rcases mem_append.1 hq with hq | hq
  ·simp only[mem_cons,not_mem_nil,or_false] at hq;rcases hq with rfl | rfl | rfl
   ·intro x hx;simp only[mem_cons,not_mem_nil,or_false] at hx;rcases hx with rfl | rfl
    ·show FK1∈_;simp
    ·show FK2∈_;simp
   ·exact fun r hr x hx=>on_imp A (row_on es us r hr x hx)
   ·exact fun r hr x hx=>on_imp A (urow_on es us r hr x hx)
  ·exact hon_imp (fun k (hk:False)=>hk.elim) (famT_no es us q hq)
 ·rw[List.append_nil] at hq;have:=hh (qmp F q) (by rw[<- e1];exact mem_map.2 ⟨q,hq,rfl⟩);exact this
 ·have hres:pmp F res=res:=by
   cases res with
   | d x=>exact congrArg PV.d (mp_same (p:=fun _=>False) (fun _ h=>h.elim) hro)|agg l=>exact congrArg PV.agg (by
     conv=>rhs;rw[<- map_id l]
     exact map_congr_left fun x hx=>mp_same (p:=fun _=>False) (fun _ h=>h.elim) (hro x hx))
   | tup l=>rfl|any=>rfl
  rw[hres];exact hk _
def nd (l:List Nat):Bool:=match l with
 | []=>true|k::l=>(l.all fun x=>!Nat.beq x k)&&nd l
theorem nd_out:∀{l:List Nat},nd l=true->l.Nodup
 | [],_=>List.Pairwise.nil|k::l,h=>by
  unfold nd at h;rw[Bool.and_eq_true,all_eq_true] at h;refine nodup_cons.2 ⟨fun hm=>?_,nd_out h.2⟩;have:=h.1 k hm;rw[beq_refl] at this;cases this
theorem nd_inj {F:Nat->Nat}:∀{l:List Nat},nd (l.map F)=true->∀a∈l,∀b∈l,F a=F b->a=b
 | x::l,h,a,ha,b,hb,e=>by
  rw[map_cons] at h;unfold nd at h;simp only[Bool.and_eq_true,all_eq_true] at h;have hx:∀y∈l,F y≠F x:=fun y hy he=>by
   have:=h.1 (F y) (mem_map.2 ⟨y,hy,rfl⟩);rw[he,beq_refl] at this;cases this
  rcases mem_cons.1 ha with ha' | ha'<;>rcases mem_cons.1 hb with hb' | hb'
  ·rw[ha',hb']
  ·exact absurd (by rw[<- ha'];exact e.symm) (hx b hb')
  ·exact absurd (by rw[<- hb'];exact e) (hx a ha')
  ·exact nd_inj h.2 a ha' b hb' e
theorem call_cs {P:Program} {f:FuncId} {args args0:List PV} {h:Hp} {K:OpK} {X:Value->Hp->Prop} {res:PV} {rf out:Rf} (ls:List (Nat×Nat)) (hs:CallS P f args0 [] rf res out)
  (h1:nd (rf.map Prod.fst)=true) (h2:nd (out.map Prod.fst)=true) (h3:nd ((ls.map Prod.fst).map (Fl ls))=true) (h4:((rf++out).all fun q=>kin q.1 (ls.map Prod.fst))=true) (h5:((ls.map Prod.fst).all fun k=>rfHas k (rf++out))=true)
  (hno:∀q∈rf++out,hon (fun _=>False) q.2) (hao:∀x∈args0,pon (·∈ls.map Prod.fst) x) (hro:pon (·∈ls.map Prod.fst) res) (ha:args0.map (pmp (Fl ls))=args) (hh:∀q∈rf,h (Fl ls q.1)=some q.2)
  (hk:K (pmp (Fl ls) res) (deltaOf (rf.map fun q=>(Fl ls q.1,q.2)) (out.map fun q=>(Fl ls q.1,q.2))) (rf.map fun q=>(Fl ls q.1,q.2))):CallP P f args h K X:=by
 have hq:∀r:Rf,(∀q∈r,hon (fun _=>False) q.2)->r.map (qmp (Fl ls))=r.map fun q=>(Fl ls q.1,q.2):=fun r hr=>map_congr_left fun q hq=>by
  show (Fl ls q.1,hmp (Fl ls) q.2)=_;rw[hmp_same (p:=fun _=>False) (fun _ h=>h.elim) (hr q hq)]
 have hall:=all_eq_true.1 h4;have hrf:=hq rf fun q hq=>hno q (mem_append_left _ hq);have hout:=hq out fun q hq=>hno q (mem_append_right _ hq);refine call_mp (Fl ls) hs (nd_out h1) (nd_out h2) (ls.map Prod.fst) (fun k=>⟨fun hk=>?_,fun hk=>?_⟩) (nd_inj h3) (fun q hq=>hon_imp (fun k (hk:False)=>hk.elim) (hno q hq)) hao hro ha (fun q hq=>?_) ?_
 ·have:=all_eq_true.1 h5 k hk;have rh:∀{r:Rf},rfHas k r=true->k∈r.map Prod.fst:=fun {r}=>by
   induction r with
   | nil=>intro h;cases h
   | cons p r ih=>
    obtain⟨a,b⟩:=p;intro h;unfold rfHas at h;cases hb:Nat.beq a k with
    | true=>rw[eq_of_beq_eq_true hb];exact mem_cons_self|false=>rw[hb] at h;exact mem_cons_of_mem _ (ih h)
  exact rh this
 ·obtain⟨q,hq,rfl⟩:=mem_map.1 hk;exact kin_iff.1 (hall q hq)
 ·have:=hh q hq
  rwa [hmp_same (p:=fun _=>False) (fun _ h=>h.elim) (hno q (mem_append_left _ hq))]
 ·show K _ (deltaOf (rf.map (qmp (Fl ls))) (out.map (qmp (Fl ls)))) (rf.map (qmp (Fl ls)));rw[hrf,hout];exact hk
theorem call_csr {P:Program} {f:FuncId} {args args0:List PV} {h:Hp} {K:OpK} {X:Value->Hp->Prop} {res:PV} {rd rf out:Rf} (ls:List (Nat×Nat)) (hs:CallS P f args0 rd rf res out)
  (h1:nd ((rd++rf).map Prod.fst)=true) (h2:nd ((rd++out).map Prod.fst)=true) (h3:nd ((ls.map Prod.fst).map (Fl ls))=true) (h4:((rd++(rf++out)).all fun q=>kin q.1 (ls.map Prod.fst))=true) (h5:((ls.map Prod.fst).all fun k=>rfHas k (rd++(rf++out)))=true)
  (hno:∀q∈rd++(rf++out),hon (fun _=>False) q.2) (hao:∀x∈args0,pon (·∈ls.map Prod.fst) x) (hro:pon (·∈ls.map Prod.fst) res) (ha:args0.map (pmp (Fl ls))=args) (hh:∀q∈rd++rf,h (Fl ls q.1)=some q.2)
  (hk:K (pmp (Fl ls) res) (deltaOf (rf.map fun q=>(Fl ls q.1,q.2)) (out.map fun q=>(Fl ls q.1,q.2))) ((rd.map fun q=>(Fl ls q.1,q.2))++rf.map fun q=>(Fl ls q.1,q.2))):CallP P f args h K X:=by
 have hq:∀r:Rf,(∀q∈r,hon (fun _=>False) q.2)->r.map (qmp (Fl ls))=r.map fun q=>(Fl ls q.1,q.2):=fun r hr=>map_congr_left fun q hq=>by
  show (Fl ls q.1,hmp (Fl ls) q.2)=_;rw[hmp_same (p:=fun _=>False) (fun _ h=>h.elim) (hr q hq)]
 have hall:=all_eq_true.1 h4;have hrd:=hq rd fun q hq=>hno q (mem_append_left _ hq);have hrf:=hq rf fun q hq=>hno q (mem_append_right _ (mem_append_left _ hq));have hout:=hq out fun q hq=>hno q (mem_append_right _ (mem_append_right _ hq));refine call_mp (Fl ls) hs (nd_out h1) (nd_out h2) (ls.map Prod.fst) (fun k=>⟨fun hk=>?_,fun hk=>?_⟩) (nd_inj h3) (fun q hq=>hon_imp (fun k (hk:False)=>hk.elim) (hno q hq)) hao hro ha (fun q hq=>?_) ?_
 ·have:=all_eq_true.1 h5 k hk;have rh:∀{r:Rf},rfHas k r=true->k∈r.map Prod.fst:=fun {r}=>by
   induction r with
   | nil=>intro h;cases h
   | cons p r ih=>
    obtain⟨a,b⟩:=p;intro h;unfold rfHas at h;cases hb:Nat.beq a k with
    | true=>rw[eq_of_beq_eq_true hb];exact mem_cons_self|false=>rw[hb] at h;exact mem_cons_of_mem _ (ih h)
  exact rh this
 ·obtain⟨q,hq,rfl⟩:=mem_map.1 hk;exact kin_iff.1 (hall q hq)
 ·have:=hh q hq;have hm:q∈rd++(rf++out):=by
   rcases mem_append.1 hq with h | h
   ·exact mem_append_left _ h
   ·exact mem_append_right _ (mem_append_left _ h)
  rwa [hmp_same (p:=fun _=>False) (fun _ h=>h.elim) (hno q hm)]
 ·show K _ (deltaOf (rf.map (qmp (Fl ls))) (out.map (qmp (Fl ls)))) (rd.map (qmp (Fl ls))++rf.map (qmp (Fl ls)));rw[hrf,hout,hrd];exact hk
theorem leaf_eq {rows:List (List D)} {a:List PairD} (h:rows=(a.map PairD.c).map (List.map D.c)):some (HB.darr 41 2 rows)=some (leafH a):=by rw[h];rfl
def Has (h:Hp) (b l u:Nat) (es:List LE) (us:List UE):Prop:=∀q∈nearT b l u es us++famT es us,h q.1=some q.2
theorem map_nd_inj {F:Nat->Nat} {l:List Nat} (h:(l.map F).Nodup):∀a∈l,∀b∈l,F a=F b->a=b:=by
 induction l with
 | nil=>intro a ha;cases ha
 | cons x l ih=>
  rw[map_cons] at h;obtain⟨h1,h2⟩:=nodup_cons.1 h;intro a ha b hb e;rcases mem_cons.1 ha with ha' | ha'<;>rcases mem_cons.1 hb with hb' | hb'
  ·rw[ha',hb']
  ·exact absurd (mem_map.2 ⟨b,hb',by rw[<- e,ha']⟩) h1
  ·exact absurd (mem_map.2 ⟨a,ha',by rw[e,hb']⟩) h1
  ·exact ih h2 a ha' b hb' e
theorem names_mv (F:Nat->Nat) (es:List LE) (us:List UE):namesT (es.map (LE.mv F)) (us.map (umv F))=(namesT es us).map F:=by
 show (es.map (LE.mv F)).map LE.k++(us.map (umv F)).map Prod.fst=_;rw[map_append,map_map,map_map,map_map,map_map];rfl
theorem keys_mv (F:Nat->Nat) (b l u:Nat) (es:List LE) (us:List UE):((nearT b l u es us++famT es us).map Prod.fst).map F=(nearT (F b) (F l) (F u) (es.map (LE.mv F)) (us.map (umv F))++famT (es.map (LE.mv F)) (us.map (umv F))).map Prod.fst:=by
 rw[tIn_keys,tIn_keys,names_mv,map_append];rfl
theorem tree_mv (F:Nat->Nat) (b l u:Nat) (es:List LE) (us:List UE):(nearT b l u es us++famT es us).map (qmp F)=nearT (F b) (F l) (F u) (es.map (LE.mv F)) (us.map (umv F))++famT (es.map (LE.mv F)) (us.map (umv F)):=by rw[map_append,near_mv,fam_mv]
theorem tree_on {b l u:Nat} {es:List LE} {us:List UE} {ks:List Nat} (hks:∀k∈[b,l,u]++namesT es us,k∈ks):∀q∈nearT b l u es us++famT es us,q.1∈ks/\hon (·∈ks) q.2:=fun q hq=>by
 refine⟨hks _ (by rw[<- tIn_keys];exact mem_map.2 ⟨q,hq,rfl⟩),?_⟩;have A:∀k∈namesT es us,k∈ks:=fun k hk=>hks k (mem_append_right _ hk);rcases mem_append.1 hq with hq | hq
 ·simp only[mem_cons,not_mem_nil,or_false] at hq;rcases hq with rfl | rfl | rfl
  ·intro x hx;simp only[mem_cons,not_mem_nil,or_false] at hx;rcases hx with rfl | rfl
   ·exact hks l (by simp)
   ·exact hks u (by simp)
  ·exact fun r hr x hx=>on_imp A (row_on es us r hr x hx)
  ·exact fun r hr x hx=>on_imp A (urow_on es us r hr x hx)
 ·exact hon_imp (fun k (hk:False)=>hk.elim) (famT_no es us q hq)
theorem wk_has {fk ks:List Nat} (F:Nat->Nat) {e:Env} {h:Hp} {le:List (Nat×PV)} {near:Rf} {b l u:Nat} {es:List LE} {us:List UE} (hh:Has h (F b) (F l) (F u) (es.map (LE.mv F)) (us.map (umv F)))
  (hfk:∀k∈fk,k∈ks/\F k=k) (hks:∀k∈[b,l,u]++namesT es us,k∈ks) (hnd:((near.map Prod.fst).map F++([F b,F l,F u]++(namesT es us).map F)).Nodup)
  (hne:∀q∈near,q.1∈ks/\∃b',h (F q.1)=some b'/\HLe (fnL (mR F ks)) ks q.2 b') (he:PLes (fnL (mR F ks)) ks e le):Wk fk e h le (near++(nearT b l u es us++famT es us)) ks:=by
 refine wk_mp F hfk (map_nd_inj ?_) (fun q hq=>?_) he
 ·rw[map_append,tIn_keys,map_append,map_append];exact hnd
 ·rcases mem_append.1 hq with hq | hq
  ·exact hne q hq
  ·obtain⟨h1,h2⟩:=tree_on hks q hq;exact⟨h1,hmp F q.2,hh (qmp F q) (by rw[<- tree_mv];exact mem_map.2 ⟨q,hq,rfl⟩),hle_on h2⟩
theorem has_in {es:List LE} {us:List UE} (hn:NmT es us) {rf:Rf} (e:rf=tIn es us):Has (hpL rf) FK FK1 FK2 es us:=by
 subst e;exact look_near rfl hn
theorem ret_has {fk:List Nat} (ks:List Nat) (F:Nat->Nat) {h:Hp} {res v:PV} {es:List LE} {us:List UE} (hb:F FK=FK) (hh:Has h FK (F NK1) (F NK2) (es.map (LE.mv F)) (us.map (umv F))) (hfk:∀k∈fk,k∈ks/\F k=k) (hks:∀k∈[FK,NK1,NK2]++namesT es us,k∈ks)
  (hnd:([FK,F NK1,F NK2]++(namesT es us).map F).Nodup) (hr:PLe (fnL (mR F ks)) ks res v):RetS fk h res (tOut es us) v:=by
 obtain⟨f,hi,hf,he,hl⟩:=wk_has (e:=fun _=>v) (le:=[(0,res)]) (near:=[]) F (b:=FK) (l:=NK1) (u:=NK2) (fk:=fk) (ks:=ks) (by rw[hb];exact hh) hfk hks (by rw[hb];exact hnd) (fun q hq=>(by cases hq)) ⟨hr,trivial⟩;exact RetS.mk f ks hi hf he.1 hl
theorem has_of {h:Hp} {b l u:Nat} {es:List LE} {us:List UE} (h1:h b=some (.box 43 [.arr l 44 1 0 es.length,.arr u 61 1 0 us.length])) (h2:h l=some (.darr 44 1 (es.map LE.row))) (h3:h u=some (.darr 61 1 (us.map urow)))
  (h4:∀e∈es,h e.k=some (leafH e.a)) (h5:∀p∈us,h p.1=some (lvlH p.2)):Has h b l u es us:=fun q hq=>by
 rcases mem_append.1 hq with hq | hq
 ·simp only[mem_cons,not_mem_nil,or_false] at hq;rcases hq with rfl | rfl | rfl
  ·exact h1
  ·exact h2
  ·exact h3
 ·rcases mem_append.1 hq with hq | hq
  ·obtain⟨e,he,rfl⟩:=mem_map.1 hq;exact h4 e he
  ·obtain⟨e,he,rfl⟩:=mem_map.1 hq;exact h5 e he
abbrev ksF (ls:List (Nat×Nat)):List Nat:=[FK,FK1,FK2]++(ls.map Prod.fst++nT)
theorem wk_in (ls:List (Nat×Nat)) (hls:(ls.all fun p=>farK p.1)=true) (f0:Fl ls FK=FK) (f1:Fl ls FK1=FK1) (f2:Fl ls FK2=FK2) {e:Env} {le:List (Nat×PV)} {es es2:List LE} {us us2:List UE} (hn:NmT es us)
  (hes:es2.map (LE.mv (Fl ls))=es) (hus:us2.map (umv (Fl ls))=us) (hnm:∀k∈namesT es2 us2,k∈ls.map Prod.fst++nT) (lh:Rf) (hlh:∀q∈lh,q∈tIn es2 us2) (he:PLes (fnL (mR (Fl ls) (ksF ls))) (ksF ls) e le) {h:Hp} (hh:h=hpL (tIn es us)) :
  Wk ([FK,FK1,FK2]++namesT es us) e h le lh (ksF ls):=by
 refine wk_sub (wk_has (near:=[]) (Fl ls) (b:=FK) (l:=FK1) (u:=FK2) (es:=es2) (us:=us2) (by rw[f0,f1,f2,hes,hus,hh];exact has_in hn rfl) (fun k hk=>?_) (fun k hk=>?_) ?_ (fun q hq=>(by cases hq)) he) hlh
 ·rcases mem_append.1 hk with hk | hk
  ·refine⟨mem_append_left _ hk,?_⟩;simp only[mem_cons,not_mem_nil,or_false] at hk;rcases hk with rfl | rfl | rfl
   ·exact f0
   ·exact f1
   ·exact f2
  ·have:=hn.inn k hk;exact⟨mem_append_right _ (mem_append_right _ this),Fl_out hls this⟩
 ·rcases mem_append.1 hk with hk | hk
  ·exact mem_append_left _ hk
  ·exact mem_append_right _ (hnm k hk)
 ·show ([Fl ls FK,Fl ls FK1,Fl ls FK2]++(namesT es2 us2).map (Fl ls)).Nodup;rw[f0,f1,f2,<- names_mv,hes,hus];have:=tIn_nd (b:=FK) (l:=FK1) (u:=FK2) rfl hn
  rwa [tIn_keys] at this
theorem mp_fix {ls:List (Nat×Nat)} (hls:(ls.all fun p=>farK p.1)=true) {es:List LE} (h:∀e∈es,e.k∈nT):es.map (LE.mv (Fl ls))=es:=mv_same fun e he=>Fl_out hls (h e he)
theorem ump_fix {ls:List (Nat×Nat)} (hls:(ls.all fun p=>farK p.1)=true) {us:List UE} (h:∀p∈us,p.1∈nT):us.map (umv (Fl ls))=us:=umv_same fun e he=>Fl_out hls (h e he)
theorem es_in {es:List LE} {us:List UE} (h:NmT es us):∀e∈es,e.k∈nT:=fun e he=>h.inn _ (mem_append_left _ (mem_map.2 ⟨e,he,rfl⟩))
theorem us_in {es:List LE} {us:List UE} (h:NmT es us):∀p∈us,p.1∈nT:=fun e he=>h.inn _ (mem_append_right _ (mem_map.2 ⟨e,he,rfl⟩))
theorem Fl_no {ls:List (Nat×Nat)} {k:Nat} (h:∀p∈ls,p.1≠k):Fl ls k=k:=by
 have:fnL ls k=none:=by
  induction ls with
  | nil=>rfl|cons p ls ih=>
   obtain⟨q,c⟩:=p;rw[fnL_skip (fun e=>h (q,c) mem_cons_self e.symm)];exact ih fun p hp=>h p (mem_cons_of_mem _ hp)
 unfold Fl;rw[this];rfl
theorem nd_perm {M lits names:List Nat} (hp:M.Perm (lits++names)) (h:nd lits=true) (hf:lits.all farK=true) (hn:names.Nodup) (hin:∀k∈names,k∈nT):M.Nodup:=by
 refine hp.nodup_iff.2 (nodup_append.2 ⟨nd_out h,hn,fun x hx y hy e=>?_⟩);subst e;exact farK_out (all_eq_true.1 hf x hx) (hin x hy)
theorem nm_sub {es es':List LE} {us us':List UE} (h:NmT es us) (h1:es'.Sublist es) (h2:us'.Sublist us):NmT es' us':=
 ⟨h.nd.sublist ((h1.map _).append (h2.map _)),fun k hk=>h.inn k (((h1.map _).append (h2.map _)).subset hk)⟩
theorem in_new {k:Nat} (h:k<12):k+3000∈nT:=mem_append_right _ (mem_append_right _ (mem_append_left _ (mem_map.2 ⟨k,mem_range.2 h,rfl⟩)))
theorem lvl_eq {rows:List (List D)} {v:List Nat} (h:rows=(v.map natC).map (List.map D.c)):some (HB.darr 3 1 rows)=some (lvlH v):=by rw[h];rfl
theorem lvl_rep (v:List Nat) (at_:Nat) {n:Nat} {m:Int} (hm:m=(n:Int)):((v.map natC).map (List.map D.c)).take at_++[[D.c (.v (.int .i64 2))],[D.c (.v (.int .i64 m))]]++((v.map natC).map (List.map D.c)).drop (at_+1)=((v.take at_++[2,n]++v.drop (at_+1)).map natC).map (List.map D.c):=by
 subst hm;simp only[map_append,map_take,map_drop,map_cons,map_nil];rfl
theorem nm_ins {es:List LE} {A B:List UE} {x:Nat} (w:List Nat) (h:NmT es (A++B)) (hx:x∈nT) (hf:x∉namesT es (A++B)):NmT es (A++(x,w)::B):=by
 have hp:(namesT es (A++(x,w)::B)).Perm (x::namesT es (A++B)):=perm_iff_count.2 fun a=>by
  simp only[namesT,count_append,map_append,map_cons,count_cons];omega
 refine⟨hp.nodup_iff.2 (nodup_cons.2 ⟨hf,h.nd⟩),fun k hk=>?_⟩;rcases mem_cons.1 (hp.subset hk) with rfl | hk
 ·exact hx
 ·exact h.inn k hk
theorem nm_val {es:List LE} {A B:List UE} {x:Nat} {w:List Nat} (w':List Nat) (h:NmT es (A++(x,w)::B)):NmT es (A++(x,w')::B):=by
 have e:namesT es (A++(x,w')::B)=namesT es (A++(x,w)::B):=by simp[namesT]
 exact⟨by show (namesT es (A++(x,w')::B)).Nodup;rw[e];exact h.nd,fun k hk=>h.inn k (by rw[show es.map LE.k++(A++(x,w)::B).map Prod.fst=namesT es (A++(x,w)::B) from rfl,<- e];exact hk)⟩
theorem nodup_map {F:Nat->Nat}:∀{l:List Nat},l.Nodup->(∀a∈l,∀b∈l,F a=F b->a=b)->(l.map F).Nodup
 | [],_,_=>List.Pairwise.nil|x::l,h,hi=>by
  obtain⟨h1,h2⟩:=nodup_cons.1 h;rw[map_cons];refine nodup_cons.2 ⟨fun hm=>?_,nodup_map h2 fun a ha b hb=>hi a (mem_cons_of_mem _ ha) b (mem_cons_of_mem _ hb)⟩;obtain⟨y,hy,e⟩:=mem_map.1 hm;have:=hi y (mem_cons_of_mem _ hy) x mem_cons_self e;exact h1 (by rw[<- this];exact hy)
theorem set_mid2 {α:Type} {A B:List α} {x:α} {i:Nat} (hi:i=A.length) (y:α):(A++x::B).set i y=A++y::B:=by
 subst hi;rw[set_append_right _ _ (Nat.le_refl _),sub_self];rfl
theorem get_mid2 {α:Type} {A B:List α} {x:α} {i:Nat} (hi:i=A.length):(A++x::B)[i]? = some x:=by
 subst hi;rw[List.getElem?_append_right (Nat.le_refl _),sub_self];rfl
theorem get_mid3 {α:Type} {A B:List α} {x y:α} {i:Nat} (hi:i=A.length+1):(A++x::y::B)[i]? = some y:=by
 subst hi;rw[List.getElem?_append_right (by omega),show A.length+1 - A.length=1 by omega];rfl
theorem set_mid3 {α:Type} {A B:List α} {x y:α} {i:Nat} (hi:i=A.length+1) (z:α):(A++x::y::B).set i z=A++x::z::B:=by
 subst hi;rw[set_append_right _ _ (by omega),show A.length+1 - A.length=1 by omega];rfl
end Tr
theorem s_nodeO {es:List LE} {us:List UE} (hn:NmT es us) (hok:∀e∈es,e.ok) (j:Nat) (u:List Nat) (hu:(us.map Prod.snd)[j]? = some u) (kid:Nat) (hk:kid<u.sum) (hk2:kid<=100000) (hul:u.length<=100000) :
  CallS Try.prog 37 [.d (.ptr FK 0),pInt .i64 j,pInt .i64 kid] (tIn es us) [] (pInt .i64 (nodeF u kid)) []:=by
 obtain⟨hj,e⟩:=List.getElem?_eq_some_iff.1 hu;have:=p_node (es.map LE.val) (us.map Prod.snd) j hj kid (by rw[e];exact hk) hk2 (by rw[e];exact hul);rw[e] at this;exact lend this (plainR_int _ _) ⟨lend_tree hn hok,.inl rfl,.inl rfl,trivial⟩
theorem s_leafO {es:List LE} {us:List UE} (hn:NmT es us) (hok:∀e∈es,e.ok) (hv:OkT (es.map LE.val) (us.map Prod.snd)) (ht:lenAt (es.map LE.val) (us.map Prod.snd) (us.map Prod.snd).length=1) (key:List UInt8) (hL:∀e∈es,∀p∈e.val,p.ok) :
  CallS Try.prog 14 [.d (.ptr FK 0),pStr (tx key)] (tIn es us) [] (pInt .i64 (leafF (es.map LE.val) (us.map Prod.snd) key (us.map Prod.snd).length 0)) []:=
 lend (p_leaf _ _ hv ht key fun l hl=>by
  obtain⟨e,he,rfl⟩:=mem_map.1 hl;exact hL e he) (plainR_int _ _) ⟨lend_tree hn hok,.inl rfl,trivial⟩
theorem s_seekO (a:List PairD) (lo n:Nat) (hle:lo+n<=a.length) (ha:Asc ((a.drop lo).take n)) (hn:n<=1000) (key:List UInt8) :
  CallS Try.prog 15 [.d (.arr FK 41 2 lo n),pStr (tx key)] [(FK,leafH a)] [] (.tup [pInt .i64 (posF ((a.drop lo).take n) key),pBool (hitF ((a.drop lo).take n) key)]) []:=by
 refine lend (p_seek ((a.drop lo).take n) ha (by rw[length_take];omega) key) (plainR_tup2 (plainR_int _ _) (plainR_bool _)) ⟨.inl ?_,.inl rfl,trivial⟩;unfold PV.closeH D.closeH;refine RowsC.mk (a.map PairD.c) (clR_cs _) (Need.mk (by rw[length_map];exact hle) ?_);show PV.d (.c (.sl 2 (((a.map PairD.c).drop lo).take n)))=lfV ((a.drop lo).take n);rw[<- map_drop,<- map_take]
end
section
open Go.RowKit K
open Tr
def riseQ:List UE->Nat->Nat->List UE
 | [],_,i=>[(i+3000,[2])]|(_,u)::Q,at_,i=>if 4<u.getD (nodeF u at_) 0+1 then (i+3000,u.take (nodeF u at_)++[2,u.getD (nodeF u at_) 0+1 - 2]++u.drop (nodeF u at_+1))::riseQ Q (nodeF u at_) (i+1)
  else (i+3000,u.set (nodeF u at_) (u.getD (nodeF u at_) 0+1))::Q
def chainQ:Nat->List UE->Prop
 | _,[]=>True|b,(_,u)::Q=>(∀n∈u,2<=n/\n<=4)/\u.sum=b/\b<=64/\chainQ u.length Q
namespace Tr
theorem riseQ_snd:∀(Q:List UE) (at_ i:Nat),(riseQ Q at_ i).map Prod.snd=riseF (Q.map Prod.snd) at_
 | [],_,_=>rfl|(k,u)::Q,at_,i=>by
  rw[map_cons,riseQ,riseF];split
  ·rw[map_cons,riseQ_snd Q]
  ·rw[map_cons]
theorem riseQ_nd:∀(Q:List UE) (at_ i:Nat),(Q.map Prod.fst).Nodup->(∀j,i<=j->j<=i+Q.length->j+3000∉Q.map Prod.fst)->
  ((riseQ Q at_ i).map Prod.fst).Nodup/\∀k∈(riseQ Q at_ i).map Prod.fst,k∈Q.map Prod.fst\/∃j,i<=j/\j<=i+Q.length/\k=j+3000
 | [],_,i,_,_=>⟨pairwise_singleton _ _,fun k hk=>by
   rw[riseQ,map_cons,map_nil,mem_singleton] at hk;exact .inr ⟨i,Nat.le_refl _,Nat.le_add_right _ _,hk⟩⟩
 | (q,u)::Q,at_,i,hn,hf=>by
  rw[map_cons] at hn;obtain⟨n1,n2⟩:=nodup_cons.1 hn;have hi:∀j,i<=j->j<=i+(Q.length+1)->j+3000∉Q.map Prod.fst:=fun j h1 h2 hm=>hf j h1 h2 (by rw[map_cons];exact mem_cons_of_mem _ hm);rw[riseQ];split
  ·obtain⟨g1,g2⟩:=riseQ_nd Q (nodeF u at_) (i+1) n2 fun j h1 h2=>hi j (by omega) (by omega);rw[map_cons];refine⟨nodup_cons.2 ⟨fun hm=>?_,g1⟩,fun k hk=>?_⟩
   ·rcases g2 _ hm with h | ⟨j,h1,h2,h3⟩
    ·exact hi i (Nat.le_refl _) (by omega) h
    ·omega
   ·rcases mem_cons.1 hk with rfl | hk
    ·exact .inr ⟨i,Nat.le_refl _,by omega,rfl⟩
    ·rcases g2 k hk with h | ⟨j,h1,h2,h3⟩
     ·exact .inl (mem_cons_of_mem _ h)
     ·exact .inr ⟨j,by omega,by rw[length_cons];omega,h3⟩
  ·rw[map_cons];refine⟨nodup_cons.2 ⟨hi i (Nat.le_refl _) (by omega),n2⟩,fun k hk=>?_⟩;rcases mem_cons.1 hk with rfl | hk
   ·exact .inr ⟨i,Nat.le_refl _,by omega,rfl⟩
   ·exact .inl (mem_cons_of_mem _ hk)
theorem nm_rise {es:List LE} {P Q:List UE} {X:List UE} (h:NmT es (P++Q)) (l:Nat) (hf:∀j,l<=j->j<=11->j+3000∉namesT es (P++Q)) (h1:(X.map Prod.fst).Nodup) (h2:∀k∈X.map Prod.fst,k∈Q.map Prod.fst\/∃j,l<=j/\j<=11/\k=j+3000):NmT es (P++X):=by
 have hsub:∀k∈es.map LE.k++P.map Prod.fst,k∈namesT es (P++Q):=fun k hk=>by
  rcases mem_append.1 hk with hk | hk
  ·exact mem_append_left _ hk
  ·refine mem_append_right _ ?_;rw[map_append];exact mem_append_left _ hk
 have hQ:∀k∈Q.map Prod.fst,k∈namesT es (P++Q):=fun k hk=>by
  refine mem_append_right _ ?_;rw[map_append];exact mem_append_right _ hk
 have hnd:=h.nd;rw[map_append,<- append_assoc] at hnd;obtain⟨d1,d2,d3⟩:=nodup_append.1 hnd;refine⟨?_,fun k hk=>?_⟩
 ·rw[map_append,<- append_assoc];refine nodup_append.2 ⟨d1,h1,fun a ha b hb e=>?_⟩;subst e;rcases h2 a hb with hq | ⟨j,j1,j2,rfl⟩
  ·exact d3 a ha a hq rfl
  ·exact hf j j1 j2 (hsub _ ha)
 ·rw[map_append,<- append_assoc] at hk;rcases mem_append.1 hk with hk | hk
  ·exact h.inn k (hsub k hk)
  ·rcases h2 k hk with hq | ⟨j,j1,j2,rfl⟩
   ·exact h.inn k (hQ k hq)
   ·exact in_new (by omega)
theorem lvl_set (v:List Nat) (i:Nat) {n:Nat} {m:Int} (hm:m=(n:Int)):((v.map natC).map (List.map D.c)).set i [D.c (.v (.int .i64 m))]=((v.set i n).map natC).map (List.map D.c):=by
 subst hm;rw[List.map_set,List.map_set];rfl
theorem ksHas_far {k:Nat} (h1:13000<=k) (h2:k<1000000):∀{ks:List Nat},(ks.all fun x=>Nat.blt x 13000||Nat.ble 1000000 x)=true->ksHas k ks=false
 | [],_=>rfl|x::ks,hk=>by
  rw[all_cons,Bool.and_eq_true] at hk;have hx:x≠k:=by
   rcases (Bool.or_eq_true _ _).mp hk.1 with h | h
   ·have:=le_of_ble_eq_true h;omega
   ·have:=le_of_ble_eq_true h;omega
  unfold ksHas;rw[nbeq hx];exact ksHas_far h1 h2 hk.2
def newF (l x:Nat) (k:Nat):Nat:=if k=NK1 then 93 else if k=NK2 then 94 else if k=l+3000 then x else if l+3000<k/\k<4000 then k+10000 else k
def foldF (l x k1 y:Nat) (k:Nat):Nat:=if k=k1 then y else newF l x k
abbrev okK (k:Nat):Prop:=(1000<=k/\k<7000)\/(1000000<=k/\k<3000000)
theorem newF_inj {l x:Nat} (hx:x<93) (hl:l<900) {a b:Nat} (ha:okK a) (hb:okK b) (e:newF l x a=newF l x b):a=b:=by
 unfold newF at e;have h1:NK1=2000001:=rfl;have h2:NK2=2000002:=rfl;rw[h1,h2] at e;repeat' (split at e)
 all_goals omega
end Tr
set_option maxHeartbeats 4000000 in
theorem s_splitU:∀(Q P:List UE) (k0:Nat) (v:List Nat) (at_:Nat) (es:List LE),NmT es (P++(k0,v)::Q)->(∀e∈es,e.ok)->(∀i,P.length<=i->i<=11->i+3000∉namesT es (P++(k0,v)::Q))->P.length+1+Q.length<=10->es.length<=1000->
  ∀hat:at_<v.length,v.length<=64->4<v[at_]/\v[at_]<=5->chainQ v.length Q->
  CallS Try.prog 17 [.d (.ptr FK 0),pInt .i64 ((P.length+1:Nat):Int),pInt .i64 at_] [] (tIn es (P++(k0,v)::Q)) (.tup [])
   (tOut es (P++(P.length+3000,v.take at_++[2,v.getD at_ 0 - 2]++v.drop (at_+1))::riseQ Q at_ (P.length+1)))
 | [],P,k0,v,at_,es,hn,hok,hfr,hl,hel,hat,hv,hm,_=>by
  obtain⟨us,hus⟩:∃us,us=P++[(k0,v)]:=⟨_,rfl⟩;have hus':P++(k0,v)::[]=us:=hus.symm;rw[hus'] at hn hfr ⊢;have husl:us.length=P.length+1:=by rw[hus,length_append];rfl
  have hl:P.length+1<=10:=hl;refine callS_sem Try.func17 (by rfl) rfl (by kernel_rfl) (by rfl) ([FK,FK1,FK2]++namesT es us) (fun k hk=>by rw[nil_append,tIn_keys] at hk;exact hk) ?_;refine Smc.cut (le:=[(0,.d (.ptr FK 0)),(1,pInt .i64 ((P.length+1:Nat):Int)),(2,pInt .i64 at_)])
   (lh:=[(FK,.box 43 [.arr FK1 44 1 0 es.length,.arr FK2 61 1 0 (P.length+1)]),(FK1,.darr 44 1 (es.map LE.row)),(FK2,.darr 61 1 ((P++[(900,v)]).map urow)),(900,lvlH v)]++famT es P)
   (m:=ksF [(900,k0)]) ?wk ?_
  case' wk=>refine wk_in [(900,k0)] rfl rfl rfl rfl hn (mp_fix rfl (es_in hn)) (us2:=P++[(900,v)]) ?u2 ?nm _ ?lh ?he rfl
  case he=>exact⟨⟨rfl,rfl,rfl⟩,.inl rfl,.inl rfl,trivial⟩
  case u2=>rw[map_append,ump_fix rfl fun p hp=>us_in hn p (by rw[hus];exact mem_append_left _ hp),hus];rfl
  case nm=>
   intro k hk;rcases mem_append.1 hk with hk | hk
   ·exact mem_append_right _ (hn.inn k (mem_append_left _ hk))
   ·rw[map_append] at hk;rcases mem_append.1 hk with hk | hk
    ·refine mem_append_right _ (hn.inn k (mem_append_right _ ?_));rw[hus,map_append];exact mem_append_left _ hk
    ·exact mem_append_left _ hk
  case lh=>
   intro q hq;rcases mem_append.1 hq with hq | hq
   ·simp only[mem_cons,not_mem_nil,or_false] at hq;rcases hq with h | h | h | h
    ·exact mem_append_left _ (by rw[h,show P.length+1=(P++[(900,v)]).length by simp];exact mem_cons_self)
    ·exact mem_append_left _ (by rw[h];simp)
    ·exact mem_append_left _ (by rw[h];simp)
    ·refine mem_append_right _ (mem_append_right _ ?_);rw[h,map_append];exact mem_append_right _ mem_cons_self
   ·rcases mem_append.1 hq with hq | hq
    ·exact mem_append_right _ (mem_append_left _ hq)
    ·refine mem_append_right _ (mem_append_right _ ?_);rw[map_append];exact mem_append_left _ hq
  refine Smc.of rfl ?_;have hvm:((v.map natC).map (List.map D.c)).length=v.length:=by rw[length_map,length_map]
  have r1:((P++[(900,v)]).map urow)[0+(((P.length+1:Nat):Int) - 1).toNat]? = some [.arr 900 3 1 0 v.length]:=by
   rw[show 0+(((P.length+1:Nat):Int) - 1).toNat=P.length by omega,map_append,List.getElem?_append_right (by rw[length_map];exact Nat.le_refl _),length_map,sub_self];rfl
  have r2:((v.map natC).map (List.map D.c))[0+((at_:Nat):Int).toNat]? = some [.c (.v (.int .i64 (v[at_]:Int)))]:=by
   rw[show 0+((at_:Nat):Int).toNat=at_ by omega,List.getElem?_map,List.getElem?_map,List.getElem?_eq_getElem hat];rfl
  have sr:=s_rep_int ((v.map natC).map (List.map D.c)) at_ (by rw[hvm];exact hat) (by rw[hvm];omega) (hon_cs _ _ _ _) [D.c (.v (.int .i64 2))] [D.c (.v (.int .i64 ((v[at_]:Int) - 2)))] (hon_cs _ _ _ [[C.v (.int .i64 2)],[C.v (.int .i64 ((v[at_]:Int) - 2))]]) [] Fam.nil;rw[hvm,show ((at_+1:Nat):Int)=(at_:Int)+1 from rfl] at sr;((conv=>whnf);repeat' ((first|(with_reducible first|apply a_|apply b_|apply c_)|((with_reducible first|apply d_|apply e_|apply f_|apply g_|apply h_);first|omega|simp only[q_]<;>omega)|((with_reducible apply i_);first|omega|simp only[q_]<;>omega)|((with_reducible apply h_);first|decide|kernel_rfl)|refine s_ (by decide) ?_|refine t_ (by decide) ?_|(first|refine Row.mk _ r1 ?_|refine Row.mk _ r2 ?_)|(refine EmpOr.emp ?_)|with_reducible first|apply l_|apply m_|apply n_|apply o_|refine p_ (fun _=>?_) (fun _=>?_))<;>conv=>whnf));refine call_cs [(FK,900),(FK1,72),(NK,73)] sr rfl rfl rfl rfl rfl (fun q hq=>?_) (fun x hx=>?_) (show NK∈[FK,FK1,NK] by decide) rfl (fun q hq=>?_) ?_
  ·simp only[cons_append,nil_append,mem_cons,not_mem_nil,or_false] at hq;rcases hq with rfl | rfl | rfl
   ·exact hon_cs _ _ _ _
   ·exact hon_cs _ _ _ [[C.v (.int .i64 2)],[C.v (.int .i64 ((v[at_]:Int) - 2))]]
   ·exact hon_put (hon_cs _ 3 1 _) (hon_cs _ _ _ [[C.v (.int .i64 2)],[C.v (.int .i64 ((v[at_]:Int) - 2))]])
  ·simp only[mem_cons,not_mem_nil,or_false] at hx;rcases hx with rfl | rfl | rfl | rfl
   ·show FK∈_;decide
   ·trivial
   ·trivial
   ·show FK1∈_;decide
  ·simp only[mem_cons,not_mem_nil,or_false] at hq;rcases hq with rfl | rfl<;>rfl
  have n2:(P.length+1+1)*24<=140737488355328:=by omega
  ((conv=>whnf);repeat' ((first|(with_reducible first|apply a_|apply b_|apply c_)|((with_reducible first|apply d_|apply e_|apply f_|apply g_|apply h_);first|omega|simp only[q_]<;>omega)|((with_reducible apply i_);first|omega|simp only[q_]<;>omega)|((with_reducible apply h_);first|decide|kernel_rfl)|refine s_ (by decide) ?_|refine t_ (by decide) ?_|(refine Row.mk _ r1 ?_)|(refine EmpOr.emp ?_)|(refine Need.by1 24 rfl n2 ?_)|with_reducible first|apply l_|apply m_|apply n_|apply o_|refine p_ (fun _=>?_) (fun _=>?_))<;>conv=>whnf));have hP:P.Sublist us:=by rw[hus];exact sublist_append_left _ _
  have hnP:NmT es P:=nm_sub hn (List.Sublist.refl _) hP;have hf0:=hfr P.length (Nat.le_refl _) (by omega);have hf1:=hfr (P.length+1) (by omega) (by omega);obtain⟨ls,hls⟩:∃ls,ls=[(NK1,FK1),(NK2,91),(P.length+3000,73),(P.length+1+3000,89)]:=⟨_,rfl⟩;have nn1:∀k∈nT,k≠NK1/\k≠NK2:=fun k hk=>by
   have:=nT_big k hk;exact⟨by show k≠2000001;omega,by show k≠2000002;omega⟩
  have hFn:∀k∈namesT es us,Fl ls k=k:=fun k hk=>Fl_no fun p hp=>by
   obtain⟨g1,g2⟩:=nn1 k (hn.inn k hk);rw[hls] at hp;simp only[mem_cons,not_mem_nil,or_false] at hp;rcases hp with rfl | rfl | rfl | rfl
   ·exact fun e=>g1 e.symm
   ·exact fun e=>g2 e.symm
   ·exact fun e=>hf0 (by rw[show P.length+3000=k from e];exact hk)
   ·exact fun e=>hf1 (by rw[show P.length+1+3000=k from e];exact hk)
  have hsubP:∀k∈namesT es P,k∈namesT es us:=fun k hk=>by
   rcases mem_append.1 hk with hk | hk
   ·exact mem_append_left _ hk
   ·exact mem_append_right _ ((hP.map _).subset hk)
  have F3:Fl ls (P.length+3000)=73:=by rw[hls,Fl_skip (by show _≠2000001;omega),Fl_skip (by show _≠2000002;omega)];exact Fl_hit
  have F4:Fl ls (P.length+1+3000)=89:=by rw[hls,Fl_skip (by show _≠2000001;omega),Fl_skip (by show _≠2000002;omega),Fl_skip (by omega)];exact Fl_hit
  have hFF:∀k,k=FK\/k=FK1\/k=FK2->Fl ls k=k:=fun k hk=>Fl_no fun p hp=>by
   rw[hls] at hp;simp only[mem_cons,not_mem_nil,or_false] at hp;rcases hp with rfl | rfl | rfl | rfl
   ·rcases hk with rfl | rfl | rfl<;>decide
   ·rcases hk with rfl | rfl | rfl<;>decide
   ·have:FK>=1000000:=Nat.le_refl _;show P.length+3000≠k;rcases hk with rfl | rfl | rfl
    ·show _≠1000000;omega
    ·show _≠1000001;omega
    ·show _≠1000002;omega
   ·show P.length+1+3000≠k;rcases hk with rfl | rfl | rfl
    ·show _≠1000000;omega
    ·show _≠1000001;omega
    ·show _≠1000002;omega
  obtain⟨v',hv'⟩:∃v',v'=v.take at_++[2,v.getD at_ 0 - 2]++v.drop (at_+1):=⟨_,rfl⟩;have hv'l:v'.length=v.length+1:=by rw[hv'];simp;omega
  have hgd:v.getD at_ 0=v[at_]:=by rw[List.getD_eq_getElem?_getD,List.getElem?_eq_getElem hat];rfl
  rw[<- hv'];have e1:es.map (LE.mv (Fl ls))=es:=mv_same fun e he=>hFn _ (mem_append_left _ (mem_map.2 ⟨e,he,rfl⟩));have e2:(P++[(P.length+3000,v'),(P.length+1+3000,[2])]).map (umv (Fl ls))=P++[(73,v'),(89,[2])]:=by
   rw[map_append,umv_same fun p hp=>hFn _ (hsubP _ (mem_append_right _ (mem_map.2 ⟨p,hp,rfl⟩)))];show P++[(Fl ls (P.length+3000),v'),(Fl ls (P.length+1+3000),[2])]=_;rw[F3,F4]
  have fn1:Fl ls NK1=FK1:=by rw[hls];exact Fl_hit
  have fn2:Fl ls NK2=91:=by rw[hls];rfl
  refine ret_has ([FK,FK1,FK2,NK1,NK2]++nT) (Fl ls) (hFF FK (.inl rfl)) (us:=P++[(P.length+3000,v'),(P.length+1+3000,[2])]) ?has (fun k hk=>?fk) (fun k hk=>?ks) ?nd rfl
  case has=>
   rw[fn1,fn2,e1,e2];have hR:=nm_fam hnP;have look:∀q∈famT es P,hpL ([(FK,.box 43 [.arr FK1 44 1 0 es.length,.arr FK2 61 1 0 (P.length+1)]),(FK1,.darr 44 1 (es.map LE.row)),(FK2,.darr 61 1 ((P++[(900,v)]).map urow)),(900,lvlH v)]++famT es P) q.1=some q.2:=fun q hq=>hR.past rfl hq;refine has_of ?_ rfl ?_ (fun e he=>?_) (fun p hp=>?_)
   ·rw[length_append];rfl
   ·refine congrArg (fun r=>some (HB.darr 61 1 r)) ?_;rw[show 0+(((P.length+1:Nat):Int) - 1).toNat=(P.map urow).length by rw[length_map];omega,map_append,set_append_right _ _ (Nat.le_refl _),sub_self,take_of_length_le (by simp),map_append,append_assoc]
    congr 1
    show [_,_]=[[D.arr 73 3 1 0 v'.length],[D.arr 89 3 1 0 1]];rw[hv'l];rfl
   ·have hb:=(hR.keys e.fam (mem_append_left _ (mem_map.2 ⟨e,he,rfl⟩))).1;repeat refine app_fam rfl hb ?_
    exact look e.fam (mem_append_left _ (mem_map.2 ⟨e,he,rfl⟩))
   ·rcases mem_append.1 hp with hp | hp
    ·have hb:=(hR.keys (ufam p) (mem_append_right _ (mem_map.2 ⟨p,hp,rfl⟩))).1;repeat refine app_fam rfl hb ?_
     exact look (ufam p) (mem_append_right _ (mem_map.2 ⟨p,hp,rfl⟩))
    ·simp only[mem_cons,not_mem_nil,or_false] at hp;rcases hp with rfl | rfl
     ·refine (lvl_eq ?_:_);rw[hv',hgd];exact lvl_rep v at_ (by omega)
     ·rfl
  case fk=>
   rcases mem_append.1 hk with hk | hk
   ·simp only[mem_cons,not_mem_nil,or_false] at hk;exact⟨mem_append_left _ (by rcases hk with rfl | rfl | rfl<;>simp),hFF k hk⟩
   ·exact⟨mem_append_right _ (hn.inn k hk),hFn k hk⟩
  case ks=>
   rcases mem_append.1 hk with hk | hk
   ·refine mem_append_left _ ?_;simp only[mem_cons,not_mem_nil,or_false] at hk ⊢;rcases hk with rfl | rfl | rfl<;>simp
   ·refine mem_append_right _ ?_;rcases mem_append.1 hk with hk | hk
    ·exact hn.inn k (mem_append_left _ hk)
    ·rw[map_append] at hk;rcases mem_append.1 hk with hk | hk
     ·exact hnP.inn k (mem_append_right _ hk)
     ·have hk:k∈[P.length+3000,P.length+1+3000]:=hk;simp only[mem_cons,not_mem_nil,or_false] at hk;rcases hk with rfl | rfl
      ·exact in_new (by omega)
      ·exact in_new (by omega)
  case nd=>
   rw[fn1,fn2,<- names_mv,e1,e2];refine nd_perm (lits:=[FK,FK1,91,73,89]) (names:=namesT es P) (perm_iff_count.2 fun a=>?_) rfl rfl hnP.nd hnP.inn;show _=List.count a ([FK,FK1,91,73,89]++(es.map LE.k++P.map Prod.fst));simp only[namesT,count_append,map_append,map_cons,map_nil,count_cons,count_nil];omega
 | (k1,u)::Q,P,k0,v,at_,es,hn,hok,hfr,hl,hel,hat,hv,hm,hc=>by
  obtain⟨us,hus⟩:∃us,us=P++(k0,v)::(k1,u)::Q:=⟨_,rfl⟩;have hus':P++(k0,v)::(k1,u)::Q=us:=hus.symm;rw[hus'] at hn hfr ⊢;have husl:us.length=P.length+2+Q.length:=by rw[hus,length_append,length_cons,length_cons];omega
  have hl:P.length+1+(Q.length+1)<=10:=hl;obtain⟨hu4,hus4,hv64,hcQ⟩:=hc;have hPQ:(P++Q).Sublist us:=by rw[hus];exact (List.Sublist.refl P).append ((sublist_cons_self _ _).trans (sublist_cons_self _ _))
  have hnP:NmT es (P++Q):=nm_sub hn (List.Sublist.refl _) hPQ;refine callS_sem Try.func17 (by rfl) rfl (by kernel_rfl) (by rfl) ([FK,FK1,FK2]++namesT es us) (fun k hk=>by rw[nil_append,tIn_keys] at hk;exact hk) ?_;refine Smc.cut (le:=[(0,.d (.ptr FK 0)),(1,pInt .i64 ((P.length+1:Nat):Int)),(2,pInt .i64 at_)])
   (lh:=[(FK,.box 43 [.arr FK1 44 1 0 es.length,.arr FK2 61 1 0 (P.length+2+Q.length)]),(FK1,.darr 44 1 (es.map LE.row)),(FK2,.darr 61 1 ((P++(900,v)::(901,u)::Q).map urow)),(900,lvlH v),(901,lvlH u)]++famT es (P++Q))
   (m:=ksF [(900,k0),(901,k1)]) ?wkB ?_
  case' wkB=>refine wk_in [(900,k0),(901,k1)] rfl rfl rfl rfl hn (mp_fix rfl (es_in hn)) (us2:=P++(900,v)::(901,u)::Q) ?u2B ?nmB _ ?lhB ?heB rfl
  case heB=>exact⟨⟨rfl,rfl,rfl⟩,.inl rfl,.inl rfl,trivial⟩
  case u2B=>
   rw[map_append,map_cons,map_cons,ump_fix rfl fun p hp=>us_in hn p (by rw[hus];exact mem_append_left _ hp),ump_fix rfl fun p hp=>us_in hn p (by rw[hus];exact mem_append_right _ (mem_cons_of_mem _ (mem_cons_of_mem _ hp))),hus];rfl
  case nmB=>
   intro k hk;rcases mem_append.1 hk with hk | hk
   ·exact mem_append_right _ (hn.inn k (mem_append_left _ hk))
   ·rw[map_append,map_cons,map_cons] at hk;rcases mem_append.1 hk with hk | hk
    ·refine mem_append_right _ (hnP.inn k (mem_append_right _ ?_));rw[map_append];exact mem_append_left _ hk
    ·rcases mem_cons.1 hk with rfl | hk
     ·exact mem_append_left _ (show 900∈[900,901] by decide)
     ·rcases mem_cons.1 hk with rfl | hk
      ·exact mem_append_left _ (show 901∈[900,901] by decide)
      ·refine mem_append_right _ (hnP.inn k (mem_append_right _ ?_));rw[map_append];exact mem_append_right _ hk
  case lhB=>
   intro q hq;rcases mem_append.1 hq with hq | hq
   ·simp only[mem_cons,not_mem_nil,or_false] at hq;rcases hq with h | h | h | h | h
    ·exact mem_append_left _ (by rw[h,show P.length+2+Q.length=(P++(900,v)::(901,u)::Q).length by simp;omega];exact mem_cons_self)
    ·exact mem_append_left _ (by rw[h];simp)
    ·exact mem_append_left _ (by rw[h];simp)
    ·refine mem_append_right _ (mem_append_right _ ?_);rw[h,map_append];exact mem_append_right _ mem_cons_self
    ·refine mem_append_right _ (mem_append_right _ ?_);rw[h,map_append];exact mem_append_right _ (mem_cons_of_mem _ mem_cons_self)
   ·rcases mem_append.1 hq with hq | hq
    ·exact mem_append_right _ (mem_append_left _ hq)
    ·refine mem_append_right _ (mem_append_right _ ?_);rw[map_append] at hq ⊢;rcases mem_append.1 hq with hq | hq
     ·exact mem_append_left _ hq
     ·exact mem_append_right _ (mem_cons_of_mem _ (mem_cons_of_mem _ hq))
  refine Smc.of rfl ?_;have hvm:((v.map natC).map (List.map D.c)).length=v.length:=by rw[length_map,length_map]
  have r1:((P++(900,v)::(901,u)::Q).map urow)[0+(((P.length+1:Nat):Int) - 1).toNat]? = some [.arr 900 3 1 0 v.length]:=by
   rw[show 0+(((P.length+1:Nat):Int) - 1).toNat=P.length by omega,map_append,List.getElem?_append_right (by rw[length_map];exact Nat.le_refl _),length_map,sub_self];rfl
  have r2:((v.map natC).map (List.map D.c))[0+((at_:Nat):Int).toNat]? = some [.c (.v (.int .i64 (v[at_]:Int)))]:=by
   rw[show 0+((at_:Nat):Int).toNat=at_ by omega,List.getElem?_map,List.getElem?_map,List.getElem?_eq_getElem hat];rfl
  have sr:=s_rep_int ((v.map natC).map (List.map D.c)) at_ (by rw[hvm];exact hat) (by rw[hvm];omega) (hon_cs _ _ _ _) [D.c (.v (.int .i64 2))] [D.c (.v (.int .i64 ((v[at_]:Int) - 2)))] (hon_cs _ _ _ [[C.v (.int .i64 2)],[C.v (.int .i64 ((v[at_]:Int) - 2))]]) [] Fam.nil;rw[hvm,show ((at_+1:Nat):Int)=(at_:Int)+1 from rfl] at sr;((conv=>whnf);repeat' ((first|(with_reducible first|apply a_|apply b_|apply c_)|((with_reducible first|apply d_|apply e_|apply f_|apply g_|apply h_);first|omega|simp only[q_]<;>omega)|((with_reducible apply i_);first|omega|simp only[q_]<;>omega)|((with_reducible apply h_);first|decide|kernel_rfl)|refine s_ (by decide) ?_|refine t_ (by decide) ?_|(first|refine Row.mk _ r1 ?_|refine Row.mk _ r2 ?_)|(refine EmpOr.emp ?_)|with_reducible first|apply l_|apply m_|apply n_|apply o_|refine p_ (fun _=>?_) (fun _=>?_))<;>conv=>whnf));refine call_cs [(FK,900),(FK1,72),(NK,73)] sr rfl rfl rfl rfl rfl (fun q hq=>?_) (fun x hx=>?_) (show NK∈[FK,FK1,NK] by decide) rfl (fun q hq=>?_) ?_
  ·simp only[cons_append,nil_append,mem_cons,not_mem_nil,or_false] at hq;rcases hq with rfl | rfl | rfl
   ·exact hon_cs _ _ _ _
   ·exact hon_cs _ _ _ [[C.v (.int .i64 2)],[C.v (.int .i64 ((v[at_]:Int) - 2))]]
   ·exact hon_put (hon_cs _ 3 1 _) (hon_cs _ _ _ [[C.v (.int .i64 2)],[C.v (.int .i64 ((v[at_]:Int) - 2))]])
  ·simp only[mem_cons,not_mem_nil,or_false] at hx;rcases hx with rfl | rfl | rfl | rfl
   ·show FK∈_;decide
   ·trivial
   ·trivial
   ·show FK1∈_;decide
  ·simp only[mem_cons,not_mem_nil,or_false] at hq;rcases hq with rfl | rfl<;>rfl
  ((conv=>whnf);repeat' ((first|(with_reducible first|apply a_|apply b_|apply c_)|((with_reducible first|apply d_|apply e_|apply f_|apply g_|apply h_);first|omega|simp only[q_]<;>omega)|((with_reducible apply i_);first|omega|simp only[q_]<;>omega)|((with_reducible apply h_);first|decide|kernel_rfl)|refine s_ (by decide) ?_|refine t_ (by decide) ?_|(refine Row.mk _ r1 ?_)|with_reducible first|apply l_|apply m_|apply n_|apply o_|refine p_ (fun _=>?_) (fun _=>?_))<;>conv=>whnf));have hf0:=hfr P.length (Nat.le_refl _) (by omega);obtain⟨v',hv'⟩:∃v',v'=v.take at_++[2,v.getD at_ 0 - 2]++v.drop (at_+1):=⟨_,rfl⟩;have hv'l:v'.length=v.length+1:=by rw[hv'];simp;omega
  have hgd:v.getD at_ 0=v[at_]:=by rw[List.getD_eq_getElem?_getD,List.getElem?_eq_getElem hat];rfl
  have hrep:=lvl_rep v at_ (n:=v.getD at_ 0 - 2) (m:=(v[at_]:Int) - 2) (by rw[hgd];omega);rw[<- hv'];rw[<- hv'] at hrep;have hnk:NmT es (P++(k1,u)::Q):=nm_sub hn (List.Sublist.refl _) (by rw[hus];exact (List.Sublist.refl P).append (sublist_cons_self _ _));have hnk_in:∀k∈namesT es (P++(k1,u)::Q),k∈namesT es us:=fun k hk=>by
   rcases mem_append.1 hk with hk | hk
   ·exact mem_append_left _ hk
   ·refine mem_append_right _ (List.Sublist.subset (List.Sublist.map Prod.fst ?_) hk);rw[hus];exact (List.Sublist.refl P).append (sublist_cons_self _ _)
  have hn1:NmT es (P++(P.length+3000,v')::(k1,u)::Q):=nm_ins v' hnk (in_new (by omega)) fun hm=>hf0 (hnk_in _ hm);have hR:=nm_fam hnP;have look:∀q∈famT es (P++Q),hpL ([(FK,.box 43 [.arr FK1 44 1 0 es.length,.arr FK2 61 1 0 (P.length+2+Q.length)]),(FK1,.darr 44 1 (es.map LE.row)),(FK2,.darr 61 1 ((P++(900,v)::(901,u)::Q).map urow)),(900,lvlH v),(901,lvlH u)]++famT es (P++Q)) q.1=some q.2:=fun q hq=>hR.past rfl hq;have nPQ:∀k∈namesT es (P++Q),k∈namesT es us:=fun k hk=>by
   rcases mem_append.1 hk with hk | hk
   ·exact mem_append_left _ hk
   ·exact mem_append_right _ (List.Sublist.subset (hPQ.map Prod.fst) hk)
  have hk1:k1∈namesT es us:=mem_append_right _ (by rw[hus];simp);have hk1n:k1∉namesT es (P++Q):=by
   have:=hnk.nd;have hp:(es.map LE.k++(P++(k1,u)::Q).map Prod.fst).Perm (k1::namesT es (P++Q)):=perm_iff_count.2 fun a=>by
    simp only[namesT,count_append,map_append,map_cons,count_cons];omega
   exact (nodup_cons.1 (hp.nodup_iff.1 this)).1
  obtain⟨F,hF⟩:∃F,F=Fl [(P.length+3000,73),(k1,901)]:=⟨_,rfl⟩;have hk1ne:k1≠P.length+3000:=fun e=>hf0 (by rw[<- e];exact hk1);have F3:F (P.length+3000)=73:=by rw[hF];exact Fl_hit
  have F1:F k1=901:=by rw[hF,Fl_skip hk1ne];exact Fl_hit
  have FN:∀k∈namesT es (P++Q),F k=k:=fun k hk=>by
   rw[hF,Fl_skip (fun e=>hf0 (by rw[<- e];exact nPQ k hk)),Fl_skip (fun e=>hk1n (by rw[<- e];exact hk))];rfl
  have hk1T:=hn.inn k1 hk1;have FF:∀k,k=FK\/k=FK1\/k=FK2->F k=k:=fun k hk=>by
   have:=nT_big k1 hk1T;have hk:1000000<=k:=by rcases hk with rfl | rfl | rfl<;>decide
   rw[hF,Fl_skip (by omega),Fl_skip (by omega)];rfl
  have e1:es.map (LE.mv F)=es:=mv_same fun e he=>FN _ (mem_append_left _ (mem_map.2 ⟨e,he,rfl⟩));have eP:P.map (umv F)=P:=umv_same fun p hp=>FN _ (mem_append_right _ (mem_map.2 ⟨p,mem_append_left _ hp,rfl⟩));have eQ:Q.map (umv F)=Q:=umv_same fun p hp=>FN _ (mem_append_right _ (mem_map.2 ⟨p,mem_append_right _ hp,rfl⟩));have e2:∀u',(P++(P.length+3000,v')::(k1,u')::Q).map (umv F)=P++(73,v')::(901,u')::Q:=fun u'=>by
   rw[map_append,map_cons,map_cons,eP,eQ];show P++(F _,v')::(F k1,u')::Q=_;rw[F3,F1]
  have ndl:∀{M lits:List Nat},M.Perm (lits++namesT es (P++Q))->nd lits=true->lits.all farK=true->M.Nodup:=fun hp h1 h2=>nd_perm hp h1 h2 hnP.nd hnP.inn;obtain⟨hul,hnode1,hnode2⟩:=nodeF_spec u at_ (by omega);obtain⟨up,hup⟩:∃up,up=nodeF u at_:=⟨_,rfl⟩;have hu2:=two_sum hu4;refine call_ro (s_nodeO hn1 hok (P.length+1) u ?gu at_ (by omega) (by omega) (by omega)) F hn1 ?gi (fun x hx=>?gp) trivial ?ga ?gh (fun rf=>?_)
  case gu=>rw[map_append,map_cons,map_cons];exact get_mid3 (by rw[length_map])
  case gi=>
   refine map_nd_inj ?_;rw[map_append,<- names_mv,e1,e2];show ([F FK,F FK1,F FK2]++_).Nodup;rw[FF FK (.inl rfl),FF FK1 (.inr (.inl rfl)),FF FK2 (.inr (.inr rfl))];refine ndl (lits:=[FK,FK1,FK2,73,901]) (perm_iff_count.2 fun a=>?_) rfl rfl;simp only[namesT,count_append,map_append,map_cons,map_nil,count_cons,count_nil];omega
  case gp=>
   simp only[mem_cons,not_mem_nil,or_false] at hx;rcases hx with rfl | rfl | rfl
   ·rfl
   ·trivial
   ·trivial
  case ga=>
   show [PV.d (.ptr (F FK) 0),_,_]=_;rw[FF FK (.inl rfl)];rfl
  case gh=>
   rw[FF FK (.inl rfl),FF FK1 (.inr (.inl rfl)),FF FK2 (.inr (.inr rfl)),e1,e2];refine has_of ?_ rfl ?_ (fun e he=>?_) (fun p hp=>?_)
   ·rw[length_append,length_cons,length_cons,show P.length+(Q.length+1+1)=P.length+2+Q.length by omega];rfl
   ·refine congrArg (fun r=>some (HB.darr 61 1 r)) ?_;rw[map_append,map_append,map_cons,map_cons,map_cons,map_cons,set_mid2 (by rw[length_map];omega)]
    congr 2
    show _=[D.arr 73 3 1 0 v'.length];rw[hv'l];rfl
   ·have hb:=(hR.keys e.fam (mem_append_left _ (mem_map.2 ⟨e,he,rfl⟩))).1;repeat refine app_fam rfl hb ?_
    exact look e.fam (mem_append_left _ (mem_map.2 ⟨e,he,rfl⟩))
   ·rcases mem_append.1 hp with hp | hp
    ·have hm:ufam p∈famT es (P++Q):=mem_append_right (es.map LE.fam) (mem_map.2 ⟨p,mem_append_left Q hp,rfl⟩);have hb:=(hR.keys (ufam p) hm).1;repeat refine app_fam rfl hb ?_
     exact look (ufam p) hm
    ·rcases mem_cons.1 hp with rfl | hp
     ·exact (lvl_eq hrep:_)
     ·rcases mem_cons.1 hp with rfl | hp
      ·rfl
      ·have hm:ufam p∈famT es (P++Q):=mem_append_right (es.map LE.fam) (mem_map.2 ⟨p,mem_append_right P hp,rfl⟩);have hb:=(hR.keys (ufam p) hm).1;repeat refine app_fam rfl hb ?_
       exact look (ufam p) hm
  rw[<- hup] at hul hnode1 hnode2 ⊢;have hup4:=hu4 u[up] (List.getElem_mem hul);have hum:((u.map natC).map (List.map D.c)).length=u.length:=by rw[length_map,length_map]
  have r3:∀Y,(((P++(900,v)::(901,u)::Q).map urow).set (0+(((P.length+1:Nat):Int) - 1).toNat) Y)[0+(((P.length+1:Nat):Int)).toNat]? = some [.arr 901 3 1 0 u.length]:=fun Y=>by
   rw[map_append,map_cons,map_cons,set_mid2 (by rw[length_map];omega)];exact get_mid3 (by rw[length_map];omega)
  have r4:((u.map natC).map (List.map D.c))[0+((up:Nat):Int).toNat]? = some [.c (.v (.int .i64 (u[up]:Int)))]:=by
   rw[show 0+((up:Nat):Int).toNat=up by omega,List.getElem?_map,List.getElem?_map,List.getElem?_eq_getElem hul];rfl
  have r5:∀Y,(((u.map natC).map (List.map D.c)).set (0+((up:Nat):Int).toNat) Y)[0+((up:Nat):Int).toNat]? = some Y:=fun Y=>List.getElem?_set_self (by rw[hum];omega);have hgu:u.getD up 0=u[up]:=by rw[List.getD_eq_getElem?_getD,List.getElem?_eq_getElem hul];rfl
  rw[riseQ,<- hup,hgu];by_cases h4:4<u[up]+1
  ·rw[if_pos h4];((conv=>whnf);repeat' ((first|(with_reducible first|apply a_|apply b_|apply c_)|((with_reducible first|apply d_|apply e_|apply f_|apply g_|apply h_);first|omega|simp only[q_]<;>omega)|((with_reducible apply i_);first|omega|simp only[q_]<;>omega)|((with_reducible apply h_);first|decide|kernel_rfl)|refine s_ (by decide) ?_|refine t_ (by decide) ?_|(first|refine Row.mk _ (r3 _) ?_|refine Row.mk _ r4 ?_|refine Row.mk _ (r5 _) ?_)|with_reducible first|apply l_|apply m_|apply n_|apply o_|refine p_ (fun _=>?_) (fun _=>?_))<;>conv=>whnf));obtain⟨u',hu'⟩:∃u',u'=u.set up (u[up]+1):=⟨_,rfl⟩;have hu'l:u'.length=u.length:=by rw[hu'];exact length_set ..
   have hu'g:u'[up]'(by omega)=u[up]+1:=by simp only[hu',List.getElem_set_self]
   have hu'd:u'.getD up 0=u[up]+1:=by rw[List.getD_eq_getElem?_getD,List.getElem?_eq_getElem (by omega),getD_some,hu'g]
   have hcut:u'.take up++[2,u'.getD up 0 - 2]++u'.drop (up+1)=u.take up++[2,u[up]+1 - 2]++u.drop (up+1):=by
    rw[hu'd,hu',take_set_of_le (Nat.le_refl _),List.drop_set,if_pos (by omega)]
   have hn2:NmT es ((P++[(P.length+3000,v')])++(k1,u')::Q):=by
    have:=nm_val u' (A:=P++[(P.length+3000,v')]) (B:=Q) (x:=k1) (w:=u) (by rw[append_assoc];exact hn1);exact this
   have hnames2:∀k∈namesT es ((P++[(P.length+3000,v')])++(k1,u')::Q),k∈namesT es us\/k=P.length+3000:=fun k hk=>by
    rcases mem_append.1 hk with hk | hk
    ·exact .inl (mem_append_left _ hk)
    ·rw[map_append,map_append,map_cons] at hk;rcases mem_append.1 hk with hk | hk
     ·rcases mem_append.1 hk with hk | hk
      ·exact .inl (hnk_in k (mem_append_right _ (by rw[map_append];exact mem_append_left _ hk)))
      ·exact .inr (mem_singleton.1 hk)
     ·exact .inl (hnk_in k (mem_append_right _ (by rw[map_append];exact mem_append_right _ hk)))
   have hPl:(P++[(P.length+3000,v')]).length=P.length+1:=by simp
   have hs:=s_splitU Q (P++[(P.length+3000,v')]) k1 u' up es hn2 hok (fun i h1 h2 hm=>by
    rw[hPl] at h1;rcases hnames2 _ hm with hm | hm
    ·exact hfr i (by omega) h2 hm
    ·omega) (by rw[hPl];omega) hel (by omega) (by omega) (by rw[hu'g];omega) (by rw[hu'l];exact hcQ)
   rw[hPl,hcut] at hs;obtain⟨X,hX⟩:∃X,X=(P.length+1+3000,u.take up++[2,u[up]+1 - 2]++u.drop (up+1))::riseQ Q up (P.length+1+1):=⟨_,rfl⟩;have hX':P++[(P.length+3000,v')]++X=P++(P.length+3000,v')::X:=by rw[append_assoc];rfl
   have hin':P++[(P.length+3000,v')]++(k1,u')::Q=P++(P.length+3000,v')::(k1,u')::Q:=by rw[append_assoc];rfl
   rw[<- hX,hX',hin'] at hs;rw[hin'] at hn2 hnames2;rw[<- hX];have hfPQ:∀j,P.length<=j->j<=11->j+3000∉namesT es (P++Q):=fun j h1 h2 hm=>hfr j h1 h2 (nPQ _ hm);have hQk:∀k∈Q.map Prod.fst,k∈namesT es (P++Q):=fun k hk=>mem_append_right _ (by rw[map_append];exact mem_append_right _ hk);have hQnd:(Q.map Prod.fst).Nodup:=by
    have:=hnP.nd;rw[map_append,<- append_assoc] at this;exact (nodup_append.1 this).2.1
   obtain⟨x1,x2⟩:=riseQ_nd Q up (P.length+1+1) hQnd fun j h1 h2 hm=>hfPQ j (by omega) (by omega) (hQk _ hm);have hXk:(((P.length+3000,v')::X).map Prod.fst).Nodup/\∀k∈((P.length+3000,v')::X).map Prod.fst,k∈Q.map Prod.fst\/∃j,P.length<=j/\j<=11/\k=j+3000:=by
    rw[hX,map_cons,map_cons];refine⟨nodup_cons.2 ⟨fun hm=>?_,nodup_cons.2 ⟨fun hm=>?_,x1⟩⟩,fun k hk=>?_⟩
    ·rcases mem_cons.1 hm with e | hm
     ·have e:P.length+3000=P.length+1+3000:=e;omega
     ·rcases x2 _ hm with hm | ⟨j,j1,j2,e⟩
      ·exact hfPQ P.length (Nat.le_refl _) (by omega) (hQk _ hm)
      ·have e:P.length+3000=j+3000:=e;omega
    ·rcases x2 _ hm with hm | ⟨j,j1,j2,e⟩
     ·exact hfPQ (P.length+1) (by omega) (by omega) (hQk _ hm)
     ·have e:P.length+1+3000=j+3000:=e;omega
    ·rcases mem_cons.1 hk with rfl | hk
     ·exact .inr ⟨P.length,Nat.le_refl _,by omega,rfl⟩
     ·rcases mem_cons.1 hk with rfl | hk
      ·exact .inr ⟨P.length+1,by omega,by omega,rfl⟩
      ·rcases x2 _ hk with hm | ⟨j,j1,j2,e⟩
       ·exact .inl hm
       ·exact .inr ⟨j,by omega,by omega,e⟩
   have hn3:NmT es (P++(P.length+3000,v')::X):=nm_rise hnP P.length hfPQ hXk.1 hXk.2;have okT:∀k∈nT,okK k:=fun k hk=>.inl (nT_big k hk);have hPl9:P.length<900:=by omega
   have fix:∀k,k∈namesT es (P++Q)->newF P.length 73 k=k:=fun k hk=>by
    have h1:=nT_big k (hnP.inn k hk);have h2:¬(P.length+3000<=k/\k<=3011):=fun h=>hfPQ (k - 3000) (by omega) (by omega) (by rw[show k - 3000+3000=k by omega];exact hk);have h3:¬(3012<=k/\k<4000):=fun h=>by
     have hm:=hnP.inn k hk;simp only[nT,mem_append,mem_map,mem_range,mem_cons,not_mem_nil,or_false] at hm;omega
    unfold newF;rw[if_neg (by show k≠2000001;omega),if_neg (by show k≠2000002;omega),if_neg (by omega),if_neg (by omega)]
   have fixF:∀k,k=FK\/k=FK1\/k=FK2->newF P.length 73 k=k:=fun k hk=>by
    have:k=1000000\/k=1000001\/k=1000002:=hk;unfold newF;rw[if_neg (by show k≠2000001;omega),if_neg (by show k≠2000002;omega),if_neg (by omega),if_neg (by omega)]
   have new0:newF P.length 73 (P.length+3000)=73:=by
    unfold newF;rw[if_neg (by show _≠2000001;omega),if_neg (by show _≠2000002;omega),if_pos rfl]
   have newN1:newF P.length 73 NK1=93:=by unfold newF;rw[if_pos rfl]
   have newN2:newF P.length 73 NK2=94:=by unfold newF;rw[if_neg (by decide),if_pos rfl]
   obtain⟨G,hG⟩:∃G,G=foldF P.length 73 k1 901:=⟨_,rfl⟩;have Gk:G k1=901:=by rw[hG];exact if_pos rfl
   have Gn:∀k,k≠k1->G k=newF P.length 73 k:=fun k hk=>by rw[hG];exact if_neg hk
   have hk1b:=nT_big k1 hk1T;have Glit:∀k,1000000<=k->G k=newF P.length 73 k:=fun k hk=>Gn k (by omega);have GPQ:∀k∈namesT es (P++Q),G k=k:=fun k hk=>by rw[Gn k fun e=>hk1n (by rw[<- e];exact hk)];exact fix k hk
   have G3:G (P.length+3000)=73:=by rw[Gn _ fun e=>hk1ne e.symm];exact new0
   have ge1:es.map (LE.mv G)=es:=mv_same fun e he=>GPQ _ (mem_append_left _ (mem_map.2 ⟨e,he,rfl⟩));have gP:P.map (umv G)=P:=umv_same fun p hp=>GPQ _ (mem_append_right _ (mem_map.2 ⟨p,mem_append_left _ hp,rfl⟩));have gQ:Q.map (umv G)=Q:=umv_same fun p hp=>GPQ _ (mem_append_right _ (mem_map.2 ⟨p,mem_append_right _ hp,rfl⟩));have ge2:(P++(P.length+3000,v')::(k1,u')::Q).map (umv G)=P++(73,v')::(901,u')::Q:=by
    rw[map_append,map_cons,map_cons,gP,gQ];show P++(G _,v')::(G k1,u')::Q=_;rw[G3,Gk]
   have gF0:G FK=FK:=by rw[Glit _ (by decide)];exact fixF _ (.inl rfl)
   have gF1:G FK1=FK1:=by rw[Glit _ (by decide)];exact fixF _ (.inr (.inl rfl))
   have gF2:G FK2=FK2:=by rw[Glit _ (by decide)];exact fixF _ (.inr (.inr rfl))
   have gN1:G NK1=93:=by rw[Glit _ (by decide)];exact newN1
   have gN2:G NK2=94:=by rw[Glit _ (by decide)];exact newN2
   have hX1:∀k∈namesT es (P++(P.length+3000,v')::X),k≠k1:=fun k hk e=>by
    subst e;rcases mem_append.1 hk with hk | hk
    ·exact hk1n (mem_append_left _ hk)
    ·rw[map_append] at hk;rcases mem_append.1 hk with hk | hk
     ·exact hk1n (mem_append_right _ (by rw[map_append];exact mem_append_left _ hk))
     ·rcases hXk.2 k hk with hq | ⟨j,j1,j2,e⟩
      ·exact hk1n (hQk _ hq)
      ·exact hfr j j1 j2 (by rw[<- e];exact hk1)
   refine call_tree hs G hn2 hn3 (fun a ha b hb e=>?gj) (fun x hx=>?gq) trivial ?gaa ?ghh ?_
   case gj=>
    have okl:∀k∈[FK,FK1,FK2,NK1,NK2]++(namesT es (P++(P.length+3000,v')::(k1,u')::Q)++namesT es (P++(P.length+3000,v')::X)),okK k:=fun k hk=>by
     rcases mem_append.1 hk with hk | hk
     ·simp only[mem_cons,not_mem_nil,or_false] at hk;rcases hk with rfl | rfl | rfl | rfl | rfl<;>exact .inr (by decide)
     ·rcases mem_append.1 hk with hk | hk
      ·exact okT k (hn2.inn k hk)
      ·exact okT k (hn3.inn k hk)
    have big:∀k,okK k->k≠k1->newF P.length 73 k≠901:=fun k hk hne=>by
     unfold newF;have h1:NK1=2000001:=rfl;have h2:NK2=2000002:=rfl;rw[h1,h2];repeat' split
     all_goals omega
    by_cases ea:a=k1
    ·by_cases eb:b=k1
     ·rw[ea,eb]
     ·rw[ea,Gk,Gn b eb] at e;exact absurd e.symm (big b (okl b hb) eb)
    ·by_cases eb:b=k1
     ·rw[eb,Gk,Gn a ea] at e;exact absurd e (big a (okl a ha) ea)
     ·rw[Gn a ea,Gn b eb] at e;exact newF_inj (by decide) hPl9 (okl a ha) (okl b hb) e
   case gq=>
    simp only[mem_cons,not_mem_nil,or_false] at hx;rcases hx with rfl | rfl | rfl
    ·rfl
    ·trivial
    ·trivial
   case gaa=>
    show [PV.d (.ptr (G FK) 0),_,_]=_;rw[gF0];rfl
   case ghh=>
    rw[gF0,gF1,gF2,ge1,ge2];refine has_of ?_ rfl ?_ (fun e he=>?_) (fun p hp=>?_)
    ·rw[length_append,length_cons,length_cons,show P.length+(Q.length+1+1)=P.length+2+Q.length by omega];rfl
    ·refine congrArg (fun r=>some (HB.darr 61 1 r)) ?_;rw[map_append,map_append,map_cons,map_cons,map_cons,map_cons,set_mid2 (by rw[length_map];omega)]
     congr 2
     ·show _=[D.arr 73 3 1 0 v'.length];rw[hv'l];rfl
     ·congr 1
      show _=[D.arr 901 3 1 0 u'.length];rw[hu'l];rfl
    ·have hb:=(hR.keys e.fam (mem_append_left _ (mem_map.2 ⟨e,he,rfl⟩))).1;repeat refine app_fam rfl hb ?_
     exact look e.fam (mem_append_left _ (mem_map.2 ⟨e,he,rfl⟩))
    ·rcases mem_append.1 hp with hp | hp
     ·have hm:ufam p∈famT es (P++Q):=mem_append_right (es.map LE.fam) (mem_map.2 ⟨p,mem_append_left Q hp,rfl⟩);have hb:=(hR.keys (ufam p) hm).1;repeat refine app_fam rfl hb ?_
      exact look (ufam p) hm
     ·rcases mem_cons.1 hp with rfl | hp
      ·exact (lvl_eq hrep:_)
      ·rcases mem_cons.1 hp with rfl | hp
       ·refine (lvl_eq ?_:_);rw[hu',show 0+((up:Nat):Int).toNat=up by omega];exact lvl_set u up (by push_cast;rfl)
       ·have hm:ufam p∈famT es (P++Q):=mem_append_right (es.map LE.fam) (mem_map.2 ⟨p,mem_append_right P hp,rfl⟩);have hb:=(hR.keys (ufam p) hm).1;repeat refine app_fam rfl hb ?_
        exact look (ufam p) hm
   rw[gF0,gF1,gF2,gN1,gN2,ge1,ge2];have hout:∀k∈namesT es (P++(P.length+3000,v')::X),k∈namesT es (P++Q)\/∃j,P.length<=j/\j<=11/\k=j+3000:=fun k hk=>by
    rcases mem_append.1 hk with hk | hk
    ·exact .inl (mem_append_left _ hk)
    ·rw[map_append] at hk;rcases mem_append.1 hk with hk | hk
     ·exact .inl (mem_append_right _ (by rw[map_append];exact mem_append_left _ hk))
     ·rcases hXk.2 k hk with hq | h
      ·exact .inl (hQk _ hq)
      ·exact .inr h
   have gX:(P++(P.length+3000,v')::X).map (umv G)=(P++(P.length+3000,v')::X).map (umv (newF P.length 73)):=map_congr_left fun p hp=>by
    show (G p.1,p.2)=(newF P.length 73 p.1,p.2);rw[Gn p.1 (hX1 _ (mem_append_right _ (mem_map.2 ⟨p,hp,rfl⟩)))]
   rw[gX];obtain⟨Y,hY⟩:∃Y,Y=(P++(P.length+3000,v')::X).map (umv (newF P.length 73)):=⟨_,rfl⟩;have fe1:es.map (LE.mv (newF P.length 73))=es:=mv_same fun e he=>fix _ (mem_append_left _ (mem_map.2 ⟨e,he,rfl⟩));have hYn:namesT es Y=(namesT es (P++(P.length+3000,v')::X)).map (newF P.length 73):=by rw[hY,<- names_mv,fe1]
   have hYk:∀k∈namesT es Y,k∈namesT es (P++Q)\/k=73\/∃j,P.length<j/\j<=11/\k=j+13000:=fun k hk=>by
    rw[hYn] at hk;obtain⟨x,hx,rfl⟩:=mem_map.1 hk;rcases hout x hx with h | ⟨j,j1,j2,rfl⟩
    ·rw[fix x h];exact .inl h
    ·by_cases hj:j=P.length
     ·rw[hj,new0];exact .inr (.inl rfl)
     ·refine .inr (.inr ⟨j,by omega,j2,?_⟩);unfold newF;rw[if_neg (by show _≠2000001;omega),if_neg (by show _≠2000002;omega),if_neg (by omega),if_pos (by omega)]
   have hYd:((nearT FK 93 94 es Y++famT es Y).map Prod.fst).Nodup:=by
    rw[tIn_keys,hYn];have h0:([FK,NK1,NK2]++namesT es (P++(P.length+3000,v')::X)).Nodup:=by
     have:=tIn_nd (b:=FK) (l:=NK1) (u:=NK2) rfl hn3
     rwa [tIn_keys] at this
    have h1:(([FK,NK1,NK2]++namesT es (P++(P.length+3000,v')::X)).map (newF P.length 73)).Nodup:=nodup_map h0 (fun a ha b hb e=>newF_inj (by decide) hPl9 (by
     rcases mem_append.1 ha with ha | ha
     ·simp only[mem_cons,not_mem_nil,or_false] at ha;rcases ha with rfl | rfl | rfl<;>exact .inr (by decide)
     ·exact okT _ (hn3.inn _ ha)) (by
     rcases mem_append.1 hb with hb | hb
     ·simp only[mem_cons,not_mem_nil,or_false] at hb;rcases hb with rfl | rfl | rfl<;>exact .inr (by decide)
     ·exact okT _ (hn3.inn _ hb)) e)
    rw[map_append] at h1;have e:[FK,NK1,NK2].map (newF P.length 73)=[FK,93,94]:=by
     show [newF P.length 73 FK,newF P.length 73 NK1,newF P.length 73 NK2]=_;rw[fixF FK (.inl rfl),newN1,newN2]
    rwa [e] at h1
   rw[<- hY];refine newP_of (fun p hp=>?_) ?_
   ·unfold deltaOf at hp;rcases mem_append.1 hp with hp | hp
    ·obtain⟨q,hq,rfl⟩:=mem_map.1 hp;exact .inl (rfHas_of (mem_map.2 ⟨q,hq,rfl⟩))
    ·obtain⟨q,hq,rfl⟩:=mem_map.1 hp;have hqk:q.1∈[FK,93,94]++namesT es Y:=by rw[<- tIn_keys];exact mem_map.2 ⟨q,hq,rfl⟩
     have hA:∀k∈[FK,FK1,FK2]++namesT es (P++(73,v')::(901,u')::Q),rfHas k (nearT FK FK1 FK2 es (P++(73,v')::(901,u')::Q)++famT es (P++(73,v')::(901,u')::Q))=true:=fun k hk=>rfHas_of (by rw[tIn_keys];exact hk);have hAn:∀k∈namesT es (P++Q),k∈namesT es (P++(73,v')::(901,u')::Q):=fun k hk=>by
      simp only[namesT,mem_append,map_append,map_cons,mem_cons] at hk ⊢;rcases hk with h | h | h
      ·exact .inl h
      ·exact .inr (.inl h)
      ·exact .inr (.inr (.inr (.inr h)))
     rcases mem_append.1 hqk with hk | hk
     ·simp only[mem_cons,not_mem_nil,or_false] at hk;show rfHas q.1 _=true\/ksHas q.1 _=false;rcases hk with e | e | e
      ·rw[e];exact .inl (hA FK (by simp))
      ·rw[e];exact .inr rfl
      ·rw[e];exact .inr rfl
     ·show rfHas q.1 _=true\/ksHas q.1 _=false;rcases hYk _ hk with h | h | ⟨j,j1,j2,e⟩
      ·exact .inl (hA _ (mem_append_right _ (hAn _ h)))
      ·rw[h];exact .inl (hA _ (mem_append_right _ (mem_append_right _ (by rw[map_append];simp))))
      ·rw[e];exact .inr (ksHas_far (by omega) (by omega) rfl)
   conv=>whnf
   refine addKs_of (fun ks'=>?_);((conv=>whnf);repeat' ((first|(with_reducible first|apply a_|apply b_|apply c_)|((with_reducible first|apply d_|apply e_|apply f_|apply g_|apply h_);first|omega|simp only[q_]<;>omega)|((with_reducible apply i_);first|omega|simp only[q_]<;>omega)|((with_reducible apply h_);first|decide|kernel_rfl)|refine s_ (by decide) ?_|refine t_ (by decide) ?_|with_reducible first|apply l_|apply m_|apply n_|apply o_|refine p_ (fun _=>?_) (fun _=>?_))<;>conv=>whnf));have fixU:∀k∈namesT es us,newF P.length 73 k=k:=fun k hk=>by
    have h1:=nT_big k (hn.inn k hk);have h2:¬(P.length+3000<=k/\k<=3011):=fun h=>hfr (k - 3000) (by omega) (by omega) (by rw[show k - 3000+3000=k by omega];exact hk);have h3:¬(3012<=k/\k<4000):=fun h=>by
     have hm:=hn.inn k hk;simp only[nT,mem_append,mem_map,mem_range,mem_cons,not_mem_nil,or_false] at hm;omega
    unfold newF;rw[if_neg (by show k≠2000001;omega),if_neg (by show k≠2000002;omega),if_neg (by omega),if_neg (by omega)]
   refine ret_has ([FK,FK1,FK2,NK1,NK2]++nT) (newF P.length 73) (fixF FK (.inl rfl)) (us:=P++(P.length+3000,v')::X) ?hasR (fun k hk=>?fkR) (fun k hk=>?ksR) ?ndR rfl
   case hasR=>
    rw[newN1,newN2,fe1,<- hY];intro q hq;exact delta_out hYd hq
   case fkR=>
    rcases mem_append.1 hk with hk | hk
    ·simp only[mem_cons,not_mem_nil,or_false] at hk;exact⟨mem_append_left _ (by rcases hk with rfl | rfl | rfl<;>simp),fixF k hk⟩
    ·exact⟨mem_append_right _ (hn.inn k hk),fixU k hk⟩
   case ksR=>
    rcases mem_append.1 hk with hk | hk
    ·refine mem_append_left _ ?_;simp only[mem_cons,not_mem_nil,or_false] at hk ⊢;rcases hk with rfl | rfl | rfl<;>simp
    ·exact mem_append_right _ (hn3.inn k hk)
   case ndR=>
    rw[newN1,newN2,<- hYn];rw[tIn_keys] at hYd;exact hYd
  ·rw[if_neg h4];((conv=>whnf);repeat' ((first|(with_reducible first|apply a_|apply b_|apply c_)|((with_reducible first|apply d_|apply e_|apply f_|apply g_|apply h_);first|omega|simp only[q_]<;>omega)|((with_reducible apply i_);first|omega|simp only[q_]<;>omega)|((with_reducible apply h_);first|decide|kernel_rfl)|refine s_ (by decide) ?_|refine t_ (by decide) ?_|(first|refine Row.mk _ (r3 _) ?_|refine Row.mk _ r4 ?_|refine Row.mk _ (r5 _) ?_)|with_reducible first|apply l_|apply m_|apply n_|apply o_|refine p_ (fun _=>?_) (fun _=>?_))<;>conv=>whnf));obtain⟨u',hu'⟩:∃u',u'=u.set up (u[up]+1):=⟨_,rfl⟩;have hu'l:u'.length=u.length:=by rw[hu'];exact length_set ..
   rw[<- hu'];have hf1:=hfr (P.length+1) (by omega) (by omega);obtain⟨G,hG⟩:∃G,G=Fl [(NK1,FK1),(NK2,FK2),(P.length+3000,73),(P.length+1+3000,901)]:=⟨_,rfl⟩;have GU:∀k∈namesT es us,G k=k:=fun k hk=>by
    have h1:=nT_big k (hn.inn k hk);rw[hG];refine Fl_no fun p hp=>?_;simp only[mem_cons,not_mem_nil,or_false] at hp;rcases hp with rfl | rfl | rfl | rfl
    ·show 2000001≠k;omega
    ·show 2000002≠k;omega
    ·exact fun e=>hf0 (by rw[show P.length+3000=k from e];exact hk)
    ·exact fun e=>hf1 (by rw[show P.length+1+3000=k from e];exact hk)
   have GF:∀k,k=FK\/k=FK1\/k=FK2->G k=k:=fun k hk=>by
    have hk':k=1000000\/k=1000001\/k=1000002:=hk;rw[hG];refine Fl_no fun p hp=>?_;simp only[mem_cons,not_mem_nil,or_false] at hp;rcases hp with rfl | rfl | rfl | rfl
    ·show 2000001≠k;omega
    ·show 2000002≠k;omega
    ·show P.length+3000≠k;omega
    ·show P.length+1+3000≠k;omega
   have G3:G (P.length+3000)=73:=by rw[hG,Fl_skip (by show _≠2000001;omega),Fl_skip (by show _≠2000002;omega)];exact Fl_hit
   have G4:G (P.length+1+3000)=901:=by rw[hG,Fl_skip (by show _≠2000001;omega),Fl_skip (by show _≠2000002;omega),Fl_skip (by omega)];exact Fl_hit
   have gN1:G NK1=FK1:=by rw[hG];exact Fl_hit
   have gN2:G NK2=FK2:=by rw[hG];rfl
   have ge1:es.map (LE.mv G)=es:=mv_same fun e he=>GU _ (mem_append_left _ (mem_map.2 ⟨e,he,rfl⟩));have gP:P.map (umv G)=P:=umv_same fun p hp=>GU _ (nPQ _ (mem_append_right _ (mem_map.2 ⟨p,mem_append_left _ hp,rfl⟩)));have gQ:Q.map (umv G)=Q:=umv_same fun p hp=>GU _ (nPQ _ (mem_append_right _ (mem_map.2 ⟨p,mem_append_right _ hp,rfl⟩)));have ge2:(P++(P.length+3000,v')::(P.length+1+3000,u')::Q).map (umv G)=P++(73,v')::(901,u')::Q:=by
    rw[map_append,map_cons,map_cons,gP,gQ];show P++(G _,v')::(G _,u')::Q=_;rw[G3,G4]
   refine ret_has ([FK,FK1,FK2,NK1,NK2]++nT) G (GF FK (.inl rfl)) (us:=P++(P.length+3000,v')::(P.length+1+3000,u')::Q) ?hasS (fun k hk=>?fkS) (fun k hk=>?ksS) ?ndS rfl
   case hasS=>
    rw[gN1,gN2,ge1,ge2];refine has_of ?_ rfl ?_ (fun e he=>?_) (fun p hp=>?_)
    ·rw[length_append,length_cons,length_cons,show P.length+(Q.length+1+1)=P.length+2+Q.length by omega];rfl
    ·refine congrArg (fun r=>some (HB.darr 61 1 r)) ?_;rw[map_append,map_append,map_cons,map_cons,map_cons,map_cons,set_mid2 (by rw[length_map];omega)]
     congr 2
     ·show _=[D.arr 73 3 1 0 v'.length];rw[hv'l];rfl
     ·congr 1
      show _=[D.arr 901 3 1 0 u'.length];rw[hu'l];rfl
    ·have hb:=(hR.keys e.fam (mem_append_left _ (mem_map.2 ⟨e,he,rfl⟩))).1;repeat refine app_fam rfl hb ?_
     exact look e.fam (mem_append_left _ (mem_map.2 ⟨e,he,rfl⟩))
    ·rcases mem_append.1 hp with hp | hp
     ·have hm:ufam p∈famT es (P++Q):=mem_append_right (es.map LE.fam) (mem_map.2 ⟨p,mem_append_left Q hp,rfl⟩);have hb:=(hR.keys (ufam p) hm).1;repeat refine app_fam rfl hb ?_
      exact look (ufam p) hm
     ·rcases mem_cons.1 hp with rfl | hp
      ·exact (lvl_eq hrep:_)
      ·rcases mem_cons.1 hp with rfl | hp
       ·refine (lvl_eq ?_:_);rw[hu',show 0+((up:Nat):Int).toNat=up by omega];exact lvl_set u up (by push_cast;rfl)
       ·have hm:ufam p∈famT es (P++Q):=mem_append_right (es.map LE.fam) (mem_map.2 ⟨p,mem_append_right P hp,rfl⟩);have hb:=(hR.keys (ufam p) hm).1;repeat refine app_fam rfl hb ?_
        exact look (ufam p) hm
   case fkS=>
    rcases mem_append.1 hk with hk | hk
    ·simp only[mem_cons,not_mem_nil,or_false] at hk;exact⟨mem_append_left _ (by rcases hk with rfl | rfl | rfl<;>simp),GF k hk⟩
    ·exact⟨mem_append_right _ (hn.inn k hk),GU k hk⟩
   case ksS=>
    rcases mem_append.1 hk with hk | hk
    ·refine mem_append_left _ ?_;simp only[mem_cons,not_mem_nil,or_false] at hk ⊢;rcases hk with rfl | rfl | rfl<;>simp
    ·refine mem_append_right _ ?_;have:k∈namesT es (P++Q)\/k=P.length+3000\/k=P.length+1+3000:=by
      simp only[namesT,mem_append,map_append,map_cons,mem_cons] at hk ⊢;rcases hk with h | h | h | h | h
      ·exact .inl (.inl h)
      ·exact .inl (.inr (.inl h))
      ·exact .inr (.inl h)
      ·exact .inr (.inr h)
      ·exact .inl (.inr (.inr h))
     rcases this with h | rfl | rfl
     ·exact hnP.inn k h
     ·exact in_new (by omega)
     ·exact in_new (by omega)
   case ndS=>
    rw[gN1,gN2,<- names_mv,ge1,ge2];refine ndl (lits:=[FK,FK1,FK2,73,901]) (perm_iff_count.2 fun a=>?_) rfl rfl;simp only[namesT,count_append,map_append,map_cons,map_nil,count_cons,count_nil];omega
end
end Go.Proofs.Ytdjbckknghddpaa.Pm
