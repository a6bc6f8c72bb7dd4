/- the search that goes back to the last % -/
import Derived.Test.YtegpnpdnanfhbaaGreatDoorYLikeParts
namespace Go.Proofs.YtegpnpdnanfhbaaGreatDoor.LikeP
open Go.RowKit K
set_option maxRecDepth 100000 in
set_option maxHeartbeats 1000000 in
theorem stands_any (k:Int) (p t:ByteArray) (w:World) :
  Calls Tryz.prog 145 #[.agg #[.int .i32 k,.string p],.string t] w fun e w'=>e=.returned (.bool (stands (k,p) t))∧Below w.heap.size w w':=by
 have hW:=alloc_below w (.cells #[.int .i32 k,.string p] 182)
 have hb:=toList_beq p t
 by_cases h1:k=95
 ·have H1:=Lib.hid h1
  have k1:(k==95)=true:=by rw[h1];rfl
  clear h1 hb
  go_enter Tryz.func145,Tryz.ntmps145
  go_wp2
  go_ret
  refine⟨?_,hW⟩
  rw[H1.out];rfl
 ·have H1:=Lib.hid h1
  have k1:(k==95)=false:=by simpa using h1
  clear h1
  by_cases h2:k=0
  ·have H2:=Lib.hid h2
   have k2:(k==0)=true:=by rw[h2];rfl
   clear h2
   go_enter Tryz.func145,Tryz.ntmps145
   go_wp2
   go_ret
   refine⟨?_,hW⟩
   rw[H2.out];simp[stands]
  ·have H2:=Lib.hid h2
   have k2:(k==0)=false:=by simpa using h2
   clear h2
   go_enter Tryz.func145,Tryz.ntmps145
   go_wp2
   go_ret
   refine⟨?_,hW⟩
   unfold stands
   rw[decide_eq_false H1.out,decide_eq_false H2.out];rfl
theorem below_drew {B:Nat} {a w:World} (h:Below B a w):Below B a w.drew:=⟨h.os,h.tape,h.output,h.size,h.block⟩
def starV:Option Nat→Int
 | none=>-1
 | some s=>s
def todo (L T:Nat) (i k s f:Int):Nat:=((L - s.toNat)*(T+2)+(T+1 - f.toNat))*(L+T+1)+(L - i.toNat)+(T - k.toNat)
theorem todo_any {L T i k:Nat} {s f:Int} (hi:i<L) (hs:s.toNat≤i) (hf:f.toNat≤T):todo L T (i+1:Nat) (k:Nat) (i+1:Nat) (k:Nat)<todo L T (i:Nat) (k:Nat) s f:=by
 unfold todo
 simp only[Int.toNat_natCast]
 have h1:(L - (i+1))*(T+2)+(T+1 - k)+1≤(L - s.toNat)*(T+2)+(T+1 - f.toNat):=by
  have:(L - (i+1)+1)*(T+2)≤(L - s.toNat)*(T+2):=Nat.mul_le_mul_right _ (by omega)
  rw[Nat.add_mul] at this
  omega
 have h2:=Nat.mul_le_mul_right (L+T+1) h1
 rw[Nat.add_mul _ 1] at h2
 omega
theorem todo_one {L T i k:Nat} {s f:Int} (hi:i<L) (hk:k<T):todo L T (i+1:Nat) (k+1:Nat) s f<todo L T (i:Nat) (k:Nat) s f:=by
 unfold todo
 simp only[Int.toNat_natCast]
 omega
theorem todo_back {L T i k s f:Nat} (hf:f<T):todo L T (s:Nat) (f+1:Nat) (s:Nat) (f+1:Nat)<todo L T (i:Nat) (k:Nat) (s:Nat) (f:Nat):=by
 unfold todo
 simp only[Int.toNat_natCast]
 have h1:(L - s)*(T+2)+(T+1 - (f+1))+1≤(L - s)*(T+2)+(T+1 - f):=by omega
 have h2:=Nat.mul_le_mul_right (L+T+1) h1
 rw[Nat.add_mul _ 1] at h2
 omega
theorem part_cells (l:List Part) (k:Nat) (hk:k<l.length):(partCells l)[k*2]? = some (.int .i32 l[k].1)∧(partCells l)[k*2+1]? = some (.string l[k].2):=
 ⟨(flat_at partVal 2 (fun _=>rfl) l k hk 0 (by decide)).trans rfl,(flat_at partVal 2 (fun _=>rfl) l k hk 1 (by decide)).trans rfl⟩
set_option maxRecDepth 100000 in
set_option maxHeartbeats 16000000 in
theorem matches_any (l:List Part) (t:List ByteArray) (v u:Value) (w:World) (hv:Seen w v l.length 2 (partCells l)) (hu:Seen w u t.length 1 (t.map Value.string)) (hL:l.length≤1000) (hT:t.length≤140737488355328) :
  Calls Tryz.prog 140 #[v,u] w fun e w'=>(∃b,e=.returned (.bool b)∧(b=true↔glob l t))∧Below w.heap.size w w':=by
 obtain⟨_,a,cap,rfl,hc,hm,hnil,hcells⟩:=id hv
 obtain⟨_,a',cap',rfl,hc',hm',hnil',hcells'⟩:=id hu
 unfold maxLen at hm hm'
 go_enter Tryz.func140,Tryz.ntmps140
 go_wp2
 go_step3
 go_wp2
 go_step3
 go_wp2
 go_loopw [5,6,7,8] (fun i k s f wr=>∃(i' k' f':Nat) (star:Option Nat),Hid (St l t i' k' star f')∧i=.int .i64 (i':Int)∧k=.int .i64 (k':Int)∧s=.int .i64 (starV star)∧f=.int .i64 (f':Int)∧Below w.heap.size w wr)
  (fun i k s f _=>todo l.length t.length (intOf i) (intOf k) (intOf s) (intOf f))
 case atStart=>exact⟨0,0,0,none,St.start l t,rfl,rfl,rfl,rfl,Below.refl _ _⟩
 case round=>
  obtain⟨i,k,f,star,HST,rfl,rfl,rfl,rfl,hb⟩:=hrel
  have hil:=HST.out.hi
  have hkl:=HST.out.hk
  have hfk:=HST.out.hf
  have hv1:=hv.later hb (Nat.le_refl _)
  have hu1:=hu.later hb (Nat.le_refl _)
  by_cases hi:i<l.length
  ·obtain⟨b,off,rfl,hb1,cl⟩:=hcells.resolve_left (by omega)
   obtain⟨c0,c1⟩:=part_cells l i hi
   have hx0:=(hb.cell (p:=⟨b,off+i*2,none⟩) hb1).trans (cl _ _ c0)
   have hx1:=(hb.cell (p:=⟨b,off+(i*2+1),none⟩) hb1).trans (cl _ _ c1)
   rw[← Nat.add_assoc] at hx1
   have di:decide (i<l.length)=true:=decide_eq_true hi
   by_cases hp:(l[i]).1=37
   ·have HP:=Lib.hid hp
    have kp:((l[i]).1==37)=true:=by rw[hp];rfl
    clear hp
    generalize hl0:(l[i]).1=x0 at *
    generalize hl1:(l[i]).2=x1 at *
    have HL0:=Lib.hid hl0
    have HL1:=Lib.hid hl1
    clear hl0 hl1 cl c0 c1 hcells hcells' hv hu hv1 hu1
    have HSI:Hid ((starV star).toNat≤i):=by
     show _≤_
     cases star with
     | none=>exact Nat.zero_le _
     | some s=>simpa [starV] using (HST.out.hs s rfl).1
    by_cases hk:k<t.length
    all_goals
     go_wp2
     go_roundw
     case rel=>exact⟨i+1,k,k,some (i+1),Lib.hid (HST.out.any hi (HL0.out.trans HP.out)),by go_num,rfl,by show _=Value.int .i64 ((i+1:Nat):Int);go_num,rfl,hb⟩
     case measure=>
      have:=todo_any (L:=l.length) (T:=t.length) (k:=k) (s:=starV star) (f:=(f:Int)) hi HSI.out (by omega)
      simpa [intOf] using this
   ·have HP:=Lib.hid hp
    have kp:((l[i]).1==37)=false:=by simpa using hp
    clear hp
    generalize hl0:(l[i]).1=x0 at *
    generalize hl1:(l[i]).2=x1 at *
    have HL0:=Lib.hid hl0
    have HL1:=Lib.hid hl1
    clear hl0 hl1 cl c0 c1 hcells hv hu hv1 hu1
    by_cases hk:k<t.length
    ·obtain⟨b',off',rfl,hb1',dl⟩:=hcells'.resolve_left (by omega)
     have hy:=(hb.cell (p:=⟨b',off'+k,none⟩) hb1').trans (dl k (.string t[k]) (by simp[hk]))
     have dk:decide (k<t.length)=true:=decide_eq_true hk
     have HY:Hid (t[k]=t[k]):=rfl
     generalize hy0:t[k]=y at *
     have HY0:=Lib.hid hy0
     clear hy0 HY dl hcells'
     cases hst:stands (x0,x1) y
     ·have HSt:=Lib.hid hst
      have HNO0:¬glob (l.drop i) (t.drop k):=HST.out.stuck (by omega) (fun _=>by rw[HL0.out];exact HP.out) (fun _ _=>by rw[HY0.out];have:=HSt.out;rw[← HL0.out,← HL1.out] at this;exact this)
      clear hst
      have HNO:Hid (¬glob (l.drop i) (t.drop k)):=HNO0
      clear HNO0
      cases star with
      | none=>
       dsimp only[starV]
       go_wp2
       go_still_tail 19,(by kernel_rfl)
       change wpList _ _ _ _ _ wr.drew
       go_wp2_with fail
       refine (stands_any x0 x1 y _).mono ?_
       rintro e w1 ⟨rfl,hb2⟩
       rw[HSt.out]
       go_wp2
       first|go_ret | (rw[Exit.noGoto_ret];go_ret)
       exact⟨⟨false,rfl,⟨(fun h=>by cases h),fun h=>absurd h (HST.out.no HNO.out (.inl rfl))⟩⟩,(below_drew hb).trans (hb2.mono hb.size)⟩
      | some s=>
       dsimp only[starV]
       by_cases hf:f<t.length
       ·go_wp2
        go_still_tail 19,(by kernel_rfl)
        change wpList _ _ _ _ _ wr.drew
        go_wp2_with fail
        refine (stands_any x0 x1 y _).mono ?_
        rintro e w1 ⟨rfl,hb2⟩
        rw[HSt.out]
        go_wp2
        go_roundw
        case rel=>exact⟨s,f+1,f+1,some s,Lib.hid (HST.out.back HNO.out hf),rfl,by go_num,rfl,by go_num,(below_drew hb).trans (hb2.mono hb.size)⟩
        case measure=>
         have:=todo_back (L:=l.length) (T:=t.length) (i:=i) (k:=k) (s:=s) hf
         simpa [intOf] using this
       ·exact absurd (Nat.lt_of_le_of_lt hfk hk) hf
     ·have HSt:=Lib.hid hst
      clear hst
      go_wp2
      go_still_tail 19,(by kernel_rfl)
      change wpList _ _ _ _ _ wr.drew
      go_wp2_with fail
      refine (stands_any x0 x1 y _).mono ?_
      rintro e w1 ⟨rfl,hb2⟩
      rw[HSt.out]
      go_wp2
      go_roundw
      case rel=>exact⟨i+1,k+1,f,star,Lib.hid (HST.out.one hi hk (by rw[HL0.out];exact HP.out) (by rw[HY0.out];have:=HSt.out;rw[← HL0.out,← HL1.out] at this;exact this)),by go_num,by go_num,rfl,rfl,(below_drew hb).trans (hb2.mono hb.size)⟩
      case measure=>
       have:=todo_one (L:=l.length) (T:=t.length) (s:=starV star) (f:=(f:Int)) hi hk
       simpa [intOf] using this
    ·have dk:decide (k<t.length)=false:=decide_eq_false hk
     have HNO0:¬glob (l.drop i) (t.drop k):=HST.out.stuck (by omega) (fun _=>by rw[HL0.out];exact HP.out) (fun _ h=>absurd h hk)
     have HNO:Hid (¬glob (l.drop i) (t.drop k)):=HNO0
     clear HNO0
     cases star with
     | none=>
      dsimp only[starV]
      go_wp2
      go_quiet (fail)
      go_wp2
      first|go_ret | (rw[Exit.noGoto_ret];go_ret)
      exact⟨⟨false,rfl,⟨(fun h=>by cases h),fun h=>absurd h (HST.out.no HNO.out (.inl rfl))⟩⟩,below_drewN hb _⟩
     | some s=>
      dsimp only[starV]
      by_cases hf:f<t.length
      ·go_wp2
       go_quiet (fail)
       go_wp2
       go_roundw
       case rel=>exact⟨s,f+1,f+1,some s,Lib.hid (HST.out.back HNO.out hf),rfl,by go_num,rfl,by go_num,below_drewN hb _⟩
       case measure=>
        have:=todo_back (L:=l.length) (T:=t.length) (i:=i) (k:=k) (s:=s) hf
        simpa [intOf] using this
      ·go_wp2
       go_quiet (fail)
       go_wp2
       first|go_ret | (rw[Exit.noGoto_ret];go_ret)
       exact⟨⟨false,rfl,⟨(fun h=>by cases h),fun h=>absurd h (HST.out.no HNO.out (.inr (by omega)))⟩⟩,below_drewN hb _⟩
  ·have di:decide (i<l.length)=false:=decide_eq_false hi
   clear hcells hcells' hv hu hv1 hu1
   by_cases hk:k<t.length
   ·have HNO0:¬glob (l.drop i) (t.drop k):=HST.out.stuck (by omega) (fun h=>absurd h hi) (fun h=>absurd h hi)
    have HNO:Hid (¬glob (l.drop i) (t.drop k)):=HNO0
    clear HNO0
    cases star with
    | none=>
     dsimp only[starV]
     go_wp2
     go_quiet (fail)
     go_wp2
     first|go_ret | (rw[Exit.noGoto_ret];go_ret)
     exact⟨⟨false,rfl,⟨(fun h=>by cases h),fun h=>absurd h (HST.out.no HNO.out (.inl rfl))⟩⟩,below_drewN hb _⟩
    | some s=>
     dsimp only[starV]
     by_cases hf:f<t.length
     ·go_wp2
      go_quiet (fail)
      go_wp2
      go_roundw
      case rel=>exact⟨s,f+1,f+1,some s,Lib.hid (HST.out.back HNO.out hf),rfl,by go_num,rfl,by go_num,below_drewN hb _⟩
      case measure=>
       have:=todo_back (L:=l.length) (T:=t.length) (i:=i) (k:=k) (s:=s) hf
       simpa [intOf] using this
     ·exact absurd (Nat.lt_of_le_of_lt hfk hk) hf
   ·go_wp2
    first|go_ret | (rw[Exit.noGoto_ret];go_ret)
    refine⟨⟨true,rfl,⟨fun _=>?_,fun _=>rfl⟩⟩,hb⟩
    have h9:=HST.out
    obtain rfl:i=l.length:=by omega
    obtain rfl:k=t.length:=by omega
    exact h9.done
end Go.Proofs.YtegpnpdnanfhbaaGreatDoor.LikeP
