/- the sum of a slice of 64-bit signed numbers -/
import Derived.Test.YtegpnpdnanfhbaaGreatDoorYWholeRef
import Derived.Laws.Externs
import Derived.Test.YtegpnpdnanfhbaaGreatDoorYSlice
namespace Go.Proofs.YtegpnpdnanfhbaaGreatDoor.WholeP
open Go.RowKit K
theorem add64 (x y c:Int) (hx:0≤x) (hy:0≤y) (hc0:0≤c) (hc:c≤1) (w:World):(callFunc 94 #[.int .u64 x,.int .u64 y,.int .u64 c]).run Tryz.prog w =
  .ok (.value (.tuple #[.int .u64 ((x+y+c)%18446744073709551616),.int .u64 ((x+y+c) / 18446744073709551616)])) w:=by
 obtain⟨x,rfl⟩:=Int.eq_ofNat_of_zero_le hx
 obtain⟨y,rfl⟩:=Int.eq_ofNat_of_zero_le hy
 obtain⟨c,rfl⟩:=Int.eq_ofNat_of_zero_le hc0
 rw[run_callFunc_extern Tryz.func94 (by kernel_rfl) (by kernel_rfl) (by kernel_rfl) (e:=add64Entry) (by kernel_rfl),run_add64 x y c (by omega) (by omega) (by omega) (by omega)]
 simp only[Result.andThen]
theorem add64_0 (x y:Int) (hx:0≤x) (hy:0≤y) (w:World):(callFunc 94 #[.int .u64 x,.int .u64 y,.int .u64 0]).run Tryz.prog w =
  .ok (.value (.tuple #[.int .u64 ((x+y)%18446744073709551616),.int .u64 ((x+y) / 18446744073709551616)])) w:=by
 simpa using add64 x y 0 hx hy (Int.le_refl 0) (by decide) w
def hiOf (s:Int):Int:=s / 18446744073709551616%18446744073709551616
def loOf (s:Int):Int:=s%18446744073709551616
abbrev two (s:Int):Array Value:=#[.int .u64 (hiOf s),.int .u64 (loOf s)]
set_option maxRecDepth 100000 in
theorem inc_any (g:Nat) (s x:Int) (hx:In64 x) (w:World) (hg:w.heap[g]? = some (.cells (two s) 129 (0,0))) :
  Calls Tryz.prog 79 #[.pointer (some ⟨g,0,none⟩),.int .i64 x] w fun e w'=>e=.returned (.tuple #[])∧w'=w.setRow g (two (s+x)):=by
 have c0:w.cell? ⟨g,0,none⟩=some (.int .u64 (hiOf s)):=by rw[cell_of_row _ _ _ _ _ _ hg];rfl
 have c1:w.cell? ⟨g,1,none⟩=some (.int .u64 (loOf s)):=by rw[cell_of_row _ _ _ _ _ _ hg];rfl
 have f0:=frozen_of_row w g 0 _ _ hg
 have f1:=frozen_of_row w g 1 _ _ hg
 have l0:0≤loOf s:=by unfold loOf;omega
 have h0:0≤hiOf s:=by unfold hiOf;omega
 have x0:0≤IntKind.u64.wrap x:=by rw[IntKind.wrap_u64];omega
 have x1:0≤IntKind.u64.wrap (x / 9223372036854775808):=by rw[IntKind.wrap_u64];omega
 have k0:0≤(loOf s+IntKind.u64.wrap x) / 18446744073709551616:=by omega
 have k1:(loOf s+IntKind.u64.wrap x) / 18446744073709551616≤1:=by rw[IntKind.wrap_u64];unfold loOf;omega
 have e0:(loOf s+IntKind.u64.wrap x)%18446744073709551616=loOf (s+x):=by rw[IntKind.wrap_u64];unfold loOf;omega
 have e1:(hiOf s+IntKind.u64.wrap (x / 9223372036854775808)+(loOf s+IntKind.u64.wrap x) / 18446744073709551616)%18446744073709551616=hiOf (s+x):=by
  obtain⟨x2,x3⟩:=hx
  rw[IntKind.wrap_u64,IntKind.wrap_u64];unfold loOf hiOf
  have d:(s+x) / 18446744073709551616=s / 18446744073709551616+x / 9223372036854775808+(s%18446744073709551616+x%18446744073709551616) / 18446744073709551616:=by
   by_cases hn:x<0
   ·rw[show x / 9223372036854775808=-1 by omega,show x%18446744073709551616=x+18446744073709551616 by omega];omega
   ·rw[show x / 9223372036854775808=0 by omega,show x%18446744073709551616=x by omega];omega
  rw[d]
  generalize (s%18446744073709551616+x%18446744073709551616) / 18446744073709551616=c
  omega
 go_enter Tryz.func79,Tryz.ntmps79
 go_wp2_with (first|simp only[add64_0 _ _ l0 x0] | simp only[add64 _ _ _ h0 x1 k0 k1])
 go_end0
 refine⟨rfl,?_⟩
 rw[setCell_eq_setRow w g 0 _ _ _ _ hg,setCell_eq_setRow _ g 1 _ _ _ _ (setRow_heap _ _ _ _ _ _ hg),setRow_setRow]
 rfl
def total (l:List Int):Int×Int:=if l.length>40 then (0,2) else fit l.sum
theorem sum_take (l:List Int) (k:Nat) (hk:k<l.length):(l.take (k+1)).sum=(l.take k).sum+l[k]:=by
 rw[List.take_succ_eq_append_getElem hk,List.sum_append];simp
theorem sum_bd:∀(l:List Int),(∀x∈l,In64 x)→-9223372036854775808*(l.length:Int)≤l.sum∧l.sum≤9223372036854775807*(l.length:Int)
 | [],_=>by simp
 | x::l,h=>by
  have:=sum_bd l fun y hy=>h y (List.mem_cons_of_mem _ hy)
  obtain⟨h1,h2⟩:=h x (List.mem_cons_self ..)
  simp only[List.sum_cons,List.length_cons]
  constructor<;>omega
theorem two_fit (s:Int) (h0:-9223372036854775808*40≤s) (h1:s≤9223372036854775807*40) :
  tell (wrap64 (loOf s)) (hiOf s==IntKind.u64.wrap (wrap64 (loOf s) / 9223372036854775808))=fit s:=by
 rw[IntKind.wrap_u64]
 by_cases k:In64 s
 ·obtain⟨k1,k2⟩:=k
  rw[fit_true ⟨k1,k2⟩,tell_true _ (by unfold hiOf loOf wrap64;simp;omega)]
  exact Prod.ext (by show _=s;unfold loOf wrap64;omega) rfl
 ·rw[fit_false k,tell_false _ (by unfold In64 at k;unfold hiOf loOf wrap64;simp;omega)]
set_option maxRecDepth 100000 in
theorem total_any (l:List Int) (hl:∀x∈l,In64 x) (v:Value) (w:World) (hs:Seen w v l.length 1 (l.map (Value.int .i64))) :
  Calls Tryz.prog 63 #[v] w fun e w'=>e=.returned (pair (total l))∧Below w.heap.size w w':=by
 obtain⟨_,a,cap,rfl,hc,hm,hnil,hcells⟩:=hs
 unfold maxLen at hm
 unfold total
 by_cases h40:l.length>40
 ·rw[if_pos h40]
  go_enter Tryz.func63,Tryz.ntmps63
  go_wp2_with fail
  go_ret2
  exact⟨rfl,Below.refl _ _⟩
 ·rw[if_neg h40]
  have hbd:=sum_bd l hl
  have hfit:=two_fit l.sum (by omega) (by omega)
  rw[← hfit]
  go_enter Tryz.func63,Tryz.ntmps63
  go_wp2
  go_loopw [12] (fun j wr=>∃k:Nat,k≤l.length∧j=.int .i64 (k:Int)∧wr=w.alloc (.cells (two (l.take k).sum) 129))
   (fun j _=>l.length - (intOf j).toNat)
  case atStart=>exact⟨0,by omega,rfl,rfl⟩
  case round=>
   obtain⟨k,hk,rfl,rfl⟩:=hrel
   by_cases h:k<l.length
   ·obtain⟨b,off,rfl,hb,hcl⟩:=hcells.resolve_left (by omega)
    have hx:=hl l[k] (List.getElem_mem h)
    have hcell:(w.alloc (.cells (two (l.take k).sum) 129)).cell? ⟨b,off+k,none⟩=some (.int .i64 l[k]):=by
     rw[World.cell?_alloc_old _ _ _ (by show b≠_;omega)]
     exact hcl k _ (by simp[h])
    go_wp2_with (go_at_call 79;refine (inc_any w.heap.size _ _ hx _ (heap_alloc_new _ _)).mono ?_;rintro e w' ⟨rfl,rfl⟩;rw[alloc_setRow,← sum_take l k h])
    go_roundw
    case rel=>exact⟨k+1,by omega,by go_num,rfl⟩
    case measure=>simp[intOf];omega
   ·obtain rfl:k=l.length:=by omega
    rw[List.take_length]
    go_wp2_with (go_at_call 80;refine (told_any _ _ _).mono ?_;rintro e w' ⟨rfl,rfl⟩)
    go_ret2
    exact⟨by rw[hfit];rfl,(Below.refl _ _).alloc (Nat.le_refl _) _⟩
def hiS (l:List Int):Int:=(l.map (· / 4294967296)).sum
def loS (l:List Int):Int:=(l.map (· % 4294967296)).sum
theorem hiS_take (l:List Int) (k:Nat) (hk:k<l.length):hiS (l.take (k+1))=hiS (l.take k)+l[k] / 4294967296:=by
 unfold hiS;rw[List.take_succ_eq_append_getElem hk,List.map_append,List.sum_append];simp
theorem loS_take (l:List Int) (k:Nat) (hk:k<l.length):loS (l.take (k+1))=loS (l.take k)+l[k]%4294967296:=by
 unfold loS;rw[List.take_succ_eq_append_getElem hk,List.map_append,List.sum_append];simp
theorem halves:∀l:List Int,hiS l*4294967296+loS l=l.sum
 | []=>rfl
 | x::l=>by
  have:=halves l
  unfold hiS loS at this ⊢
  simp only[List.map_cons,List.sum_cons];omega
theorem halves_bd:∀(l:List Int),(∀x∈l,In64 x)→-2147483648*(l.length:Int)≤hiS l∧hiS l≤2147483647*(l.length:Int)∧0≤loS l∧loS l≤4294967295*(l.length:Int)
 | [],_=>by simp[hiS,loS]
 | x::l,h=>by
  have:=halves_bd l fun y hy=>h y (List.mem_cons_of_mem _ hy)
  obtain⟨h1,h2⟩:=h x (List.mem_cons_self ..)
  unfold hiS loS at this ⊢
  simp only[List.map_cons,List.sum_cons,List.length_cons]
  omega
set_option maxRecDepth 100000 in
theorem totalof_any (l:List Int) (hl:∀x∈l,In64 x) (v:Value) (w:World) (hs:Seen w v l.length 1 (l.map (Value.int .i64))) :
  Calls Tryz.prog 49 #[v] w fun e w'=>e=.returned (pair (total l))∧w=w':=by
 obtain⟨_,a,cap,rfl,hc,hm,hnil,hcells⟩:=hs
 unfold maxLen at hm
 unfold total
 by_cases h40:l.length>40
 ·rw[if_pos h40]
  go_enter Tryz.func49,Tryz.ntmps49
  go_wp2_with fail
  go_ret2
  exact⟨rfl,rfl⟩
 ·rw[if_neg h40]
  have hbd:=halves_bd l hl
  have hh:=halves l
  go_enter Tryz.func49,Tryz.ntmps49
  go_wp2
  go_loopw [4,5,6] (fun j4 j5 j6 wr=>∃k:Nat,k≤l.length∧j4=.int .i64 (hiS (l.take k))∧j5=.int .i64 (loS (l.take k))∧j6=.int .i64 (k:Int)∧wr=w)
   (fun _ _ j _=>l.length - (intOf j).toNat)
  case atStart=>exact⟨0,by omega,rfl,rfl,rfl,rfl⟩
  case round=>
   obtain⟨k,hk,rfl,rfl,rfl,rfl⟩:=hrel
   by_cases h:k<l.length
   ·obtain⟨b,off,rfl,hb,hcl⟩:=hcells.resolve_left (by omega)
    obtain⟨x0,x1⟩:=hl l[k] (List.getElem_mem h)
    have hcell:wr.cell? ⟨b,off+k,none⟩=some (.int .i64 l[k]):=hcl k _ (by simp[h])
    have hbk:=halves_bd (l.take k) fun y hy=>hl y (List.mem_of_mem_take hy)
    rw[List.length_take,Nat.min_eq_left hk] at hbk
    have e1:wrap64 (hiS (l.take k)+l[k] / 4294967296)=hiS (l.take (k+1)):=by rw[hiS_take l k h];unfold wrap64;omega
    have e2:wrap64 (l[k] / 4294967296*4294967296)=l[k] / 4294967296*4294967296:=by unfold wrap64;omega
    have e3:wrap64 (l[k] - l[k] / 4294967296*4294967296)=l[k]%4294967296:=by unfold wrap64;omega
    have e4:wrap64 (loS (l.take k)+l[k]%4294967296)=loS (l.take (k+1)):=by rw[loS_take l k h];unfold wrap64;omega
    have e5:wrap64 (loS (l.take k)+(l[k] - l[k] / 4294967296*4294967296))=loS (l.take (k+1)):=by rw[loS_take l k h];unfold wrap64;omega
    clear hbk hbd hh
    go_wp2_with fail
    go_roundw
    case rel=>exact⟨k+1,by omega,by first|rfl|exact congrArg (Value.int .i64) e1,by first|rfl|exact congrArg (Value.int .i64) e5,by go_num,by first|rfl|trivial⟩
    case measure=>simp[intOf];omega
   ·obtain rfl:k=l.length:=by omega
    rw[List.take_length]
    generalize hiS l=p at *
    generalize loS l=q at *
    have e1:wrap64 (p+q / 4294967296)=p+q / 4294967296:=by unfold wrap64;omega
    have e2:wrap64 (q / 4294967296*4294967296)=q / 4294967296*4294967296:=by unfold wrap64;omega
    have e3:wrap64 (q - q / 4294967296*4294967296)=q%4294967296:=by unfold wrap64;omega
    by_cases k1:p+q / 4294967296 < -2147483648
    ·have hf:=Lib.hid (hh ▸ fit_false (n:=p*4294967296+q) (by unfold In64;omega))
     clear hbd hh
     go_wp2_with fail
     go_ret2
     exact⟨by rw[hf.out];rfl,rfl⟩
    by_cases k2:p+q / 4294967296≥2147483648
    ·have hf:=Lib.hid (hh ▸ fit_false (n:=p*4294967296+q) (by unfold In64;omega))
     clear hbd hh
     go_wp2_with fail
     go_ret2
     exact⟨by rw[hf.out];rfl,rfl⟩
    ·have hf:=Lib.hid (hh ▸ fit_true (n:=p*4294967296+q) ⟨by omega,by omega⟩)
     have e4:wrap64 ((p+q / 4294967296)*4294967296)=(p+q / 4294967296)*4294967296:=by unfold wrap64;omega
     have e5:wrap64 ((p+q / 4294967296)*4294967296+q%4294967296)=p*4294967296+q:=by unfold wrap64;omega
     have e6:wrap64 ((p+q / 4294967296)*4294967296+(q - q / 4294967296*4294967296))=p*4294967296+q:=by unfold wrap64;omega
     rw[hh] at e5 e6
     have e7:(p+q / 4294967296)*4294967296+(q - q / 4294967296*4294967296)=l.sum:=by omega
     clear hbd hh
     go_wp2_with fail
     go_ret2
     exact⟨by rw[hf.out];first|rfl|exact congrArg (fun q=>Ending.returned (pair (q,0))) e6|exact congrArg (fun q=>Ending.returned (pair (q,0))) e7,rfl⟩
end Go.Proofs.YtegpnpdnanfhbaaGreatDoor.WholeP
