/- the document's answers on pieces -/
import Derived.Test.YtdgmbijjhifbeaaGreatDoorYLikeTop
namespace Go.Proofs.YtdgmbijjhifbeaaGreatDoor.LikeP
open Go.RowKit K
set_option maxRecDepth 100000 in
set_option maxHeartbeats 1000000 in
theorem in_any (s:ByteArray) (i lo hi:Int) (w:World) (h0:0≤i) (h1:i≤3) (hlo:0≤lo) (hhi:0≤hi) :
  Calls Tryz.prog 145 #[.string s,.int .i64 i,.int .i64 lo,.int .i64 hi] w fun e w'=>e=.returned (.bool (bt s.data.toList i.toNat lo.toNat hi.toNat))∧w=w':=by
 have hbt:=bt_iff s i.toNat lo.toNat hi.toNat
 by_cases h:i<s.size
 ·have hi':i.toNat<s.size:=by omega
  have hg:s.get! i.toNat=s[i.toNat]:=Utf8W.get!_of_lt s i.toNat hi'
  rw[hg] at hbt
  have HBT:=Lib.hid hbt
  clear hbt hg
  generalize hx:s[i.toNat]=x at *
  have HX:=Lib.hid hx
  have hx0:0≤(x.toNat:Int):=by omega
  have hx1:(x.toNat:Int)≤255:=by have:=x.toNat_lt;omega
  by_cases a:lo≤(x.toNat:Int)
  ·by_cases b:(x.toNat:Int)≤hi
   ·have HR:Hid (bt s.data.toList i.toNat lo.toNat hi.toNat=true):=by show _=_;rw[HBT.out];omega
    go_enter Tryz.func145,Tryz.ntmps145
    go_wp2
    go_ret
    exact⟨by rw[HR.out];rfl,rfl⟩
   ·have HR:Hid (bt s.data.toList i.toNat lo.toNat hi.toNat=false):=by show _=_;rw[Bool.eq_false_iff,Ne,HBT.out];omega
    go_enter Tryz.func145,Tryz.ntmps145
    go_wp2
    go_ret
    exact⟨by rw[HR.out];rfl,rfl⟩
  ·have HR:Hid (bt s.data.toList i.toNat lo.toNat hi.toNat=false):=by show _=_;rw[Bool.eq_false_iff,Ne,HBT.out];omega
   go_enter Tryz.func145,Tryz.ntmps145
   go_wp2
   go_ret
   exact⟨by rw[HR.out];rfl,rfl⟩
 ·have HR:Hid (bt s.data.toList i.toNat lo.toNat hi.toNat=false):=by show _=_;rw[Bool.eq_false_iff,Ne,hbt];omega
  clear hbt
  go_enter Tryz.func145,Tryz.ntmps145
  go_wp2
  go_ret
  exact⟨by rw[HR.out];rfl,rfl⟩
theorem first_class (l:List UInt8) :
  ∀P:Prop,
  (bt l 0 194 223=true→bt l 0 224 224=false→bt l 0 240 240=false→bt l 0 225 236=false→bt l 0 237 237=false→bt l 0 238 239=false→bt l 0 241 243=false→bt l 0 244 244=false→P)→
  (bt l 0 194 223=false→bt l 0 224 224=true→bt l 0 240 240=false→bt l 0 225 236=false→bt l 0 237 237=false→bt l 0 238 239=false→bt l 0 241 243=false→bt l 0 244 244=false→P)→
  (bt l 0 194 223=false→bt l 0 224 224=false→bt l 0 240 240=false→bt l 0 225 236=true→bt l 0 237 237=false→bt l 0 238 239=false→bt l 0 241 243=false→bt l 0 244 244=false→P)→
  (bt l 0 194 223=false→bt l 0 224 224=false→bt l 0 240 240=false→bt l 0 225 236=false→bt l 0 237 237=true→bt l 0 238 239=false→bt l 0 241 243=false→bt l 0 244 244=false→P)→
  (bt l 0 194 223=false→bt l 0 224 224=false→bt l 0 240 240=false→bt l 0 225 236=false→bt l 0 237 237=false→bt l 0 238 239=true→bt l 0 241 243=false→bt l 0 244 244=false→P)→
  (bt l 0 194 223=false→bt l 0 224 224=false→bt l 0 240 240=true→bt l 0 225 236=false→bt l 0 237 237=false→bt l 0 238 239=false→bt l 0 241 243=false→bt l 0 244 244=false→P)→
  (bt l 0 194 223=false→bt l 0 224 224=false→bt l 0 240 240=false→bt l 0 225 236=false→bt l 0 237 237=false→bt l 0 238 239=false→bt l 0 241 243=true→bt l 0 244 244=false→P)→
  (bt l 0 194 223=false→bt l 0 224 224=false→bt l 0 240 240=false→bt l 0 225 236=false→bt l 0 237 237=false→bt l 0 238 239=false→bt l 0 241 243=false→bt l 0 244 244=true→P)→
  (bt l 0 194 223=false→bt l 0 224 224=false→bt l 0 240 240=false→bt l 0 225 236=false→bt l 0 237 237=false→bt l 0 238 239=false→bt l 0 241 243=false→bt l 0 244 244=false→P)→P:=by
 intro P h1 h2 h3 h4 h5 h6 h7 h8 h9
 unfold bt at *
 cases l with
 | nil=>exact h9 rfl rfl rfl rfl rfl rfl rfl rfl
 | cons b l=>
  simp only[List.getElem?_cons_zero,Bool.and_eq_true,Bool.and_eq_false_iff,decide_eq_true_eq,decide_eq_false_iff_not] at *
  by_cases a:194≤b.toNat∧b.toNat≤223
  ·exact h1 a (by omega) (by omega) (by omega) (by omega) (by omega) (by omega) (by omega)
  ·by_cases a2:224=b.toNat
   ·exact h2 (by omega) (by omega) (by omega) (by omega) (by omega) (by omega) (by omega) (by omega)
   ·by_cases a3:225≤b.toNat∧b.toNat≤236
    ·exact h3 (by omega) (by omega) (by omega) (by omega) (by omega) (by omega) (by omega) (by omega)
    ·by_cases a4:237=b.toNat
     ·exact h4 (by omega) (by omega) (by omega) (by omega) (by omega) (by omega) (by omega) (by omega)
     ·by_cases a5:238≤b.toNat∧b.toNat≤239
      ·exact h5 (by omega) (by omega) (by omega) (by omega) (by omega) (by omega) (by omega) (by omega)
      ·by_cases a6:240=b.toNat
       ·exact h6 (by omega) (by omega) (by omega) (by omega) (by omega) (by omega) (by omega) (by omega)
       ·by_cases a7:241≤b.toNat∧b.toNat≤243
        ·exact h7 (by omega) (by omega) (by omega) (by omega) (by omega) (by omega) (by omega) (by omega)
        ·by_cases a8:244=b.toNat
         ·exact h8 (by omega) (by omega) (by omega) (by omega) (by omega) (by omega) (by omega) (by omega)
         ·exact h9 (by omega) (by omega) (by omega) (by omega) (by omega) (by omega) (by omega) (by omega)
set_option maxRecDepth 100000 in
set_option maxHeartbeats 8000000 in
set_option linter.unusedSimpArgs false in
theorem letterlen_any (s:ByteArray) (w:World) :
  Calls Tryz.prog 186 #[.string s] w fun e w'=>e=.returned (.int .i64 (ll s))∧w=w':=by
 have hll:ll s=letterLen s.data.toList:=rfl
 rw[hll]
 clear hll
 refine first_class s.data.toList _ ?_ ?_ ?_ ?_ ?_ ?_ ?_ ?_ ?_
 ·intro h1 h2 h3 h4 h5 h6 h7 h8
  cases k1:bt s.data.toList 1 128 191
  ·have HL:Hid (letterLen s.data.toList=1):=by show _=_;unfold letterLen;simp[h1,h2,h3,h4,h5,h6,h7,h8,k1]
   go_enter Tryz.func186,Tryz.ntmps186
   go_wp2_with (go_at_call 145;refine (in_any s _ _ _ _ (by omega) (by omega) (by omega) (by omega)).mono ?_;rintro e w' ⟨rfl,rfl⟩)
   go_ret
   exact⟨by rw[HL.out];rfl,rfl⟩
  ·have HL:Hid (letterLen s.data.toList=2):=by show _=_;unfold letterLen;simp[h1,h2,h3,h4,h5,h6,h7,h8,k1]
   go_enter Tryz.func186,Tryz.ntmps186
   go_wp2_with (go_at_call 145;refine (in_any s _ _ _ _ (by omega) (by omega) (by omega) (by omega)).mono ?_;rintro e w' ⟨rfl,rfl⟩)
   go_ret
   exact⟨by rw[HL.out];rfl,rfl⟩
 ·intro h1 h2 h3 h4 h5 h6 h7 h8
  cases k1:bt s.data.toList 1 160 191
  ·have HL:Hid (letterLen s.data.toList=1):=by show _=_;unfold letterLen;simp[h1,h2,h3,h4,h5,h6,h7,h8,k1]
   go_enter Tryz.func186,Tryz.ntmps186
   go_wp2_with (go_at_call 145;refine (in_any s _ _ _ _ (by omega) (by omega) (by omega) (by omega)).mono ?_;rintro e w' ⟨rfl,rfl⟩)
   go_ret
   exact⟨by rw[HL.out];rfl,rfl⟩
  ·cases k2:bt s.data.toList 2 128 191
   ·have HL:Hid (letterLen s.data.toList=1):=by show _=_;unfold letterLen;simp[h1,h2,h3,h4,h5,h6,h7,h8,k1,k2]
    go_enter Tryz.func186,Tryz.ntmps186
    go_wp2_with (go_at_call 145;refine (in_any s _ _ _ _ (by omega) (by omega) (by omega) (by omega)).mono ?_;rintro e w' ⟨rfl,rfl⟩)
    go_ret
    exact⟨by rw[HL.out];rfl,rfl⟩
   ·have HL:Hid (letterLen s.data.toList=3):=by show _=_;unfold letterLen;simp[h1,h2,h3,h4,h5,h6,h7,h8,k1,k2]
    go_enter Tryz.func186,Tryz.ntmps186
    go_wp2_with (go_at_call 145;refine (in_any s _ _ _ _ (by omega) (by omega) (by omega) (by omega)).mono ?_;rintro e w' ⟨rfl,rfl⟩)
    go_ret
    exact⟨by rw[HL.out];rfl,rfl⟩
 ·intro h1 h2 h3 h4 h5 h6 h7 h8
  cases k1:bt s.data.toList 1 128 191
  ·have HL:Hid (letterLen s.data.toList=1):=by show _=_;unfold letterLen;simp[h1,h2,h3,h4,h5,h6,h7,h8,k1]
   go_enter Tryz.func186,Tryz.ntmps186
   go_wp2_with (go_at_call 145;refine (in_any s _ _ _ _ (by omega) (by omega) (by omega) (by omega)).mono ?_;rintro e w' ⟨rfl,rfl⟩)
   go_ret
   exact⟨by rw[HL.out];rfl,rfl⟩
  ·cases k2:bt s.data.toList 2 128 191
   ·have HL:Hid (letterLen s.data.toList=1):=by show _=_;unfold letterLen;simp[h1,h2,h3,h4,h5,h6,h7,h8,k1,k2]
    go_enter Tryz.func186,Tryz.ntmps186
    go_wp2_with (go_at_call 145;refine (in_any s _ _ _ _ (by omega) (by omega) (by omega) (by omega)).mono ?_;rintro e w' ⟨rfl,rfl⟩)
    go_ret
    exact⟨by rw[HL.out];rfl,rfl⟩
   ·have HL:Hid (letterLen s.data.toList=3):=by show _=_;unfold letterLen;simp[h1,h2,h3,h4,h5,h6,h7,h8,k1,k2]
    go_enter Tryz.func186,Tryz.ntmps186
    go_wp2_with (go_at_call 145;refine (in_any s _ _ _ _ (by omega) (by omega) (by omega) (by omega)).mono ?_;rintro e w' ⟨rfl,rfl⟩)
    go_ret
    exact⟨by rw[HL.out];rfl,rfl⟩
 ·intro h1 h2 h3 h4 h5 h6 h7 h8
  cases k1:bt s.data.toList 1 128 159
  ·have HL:Hid (letterLen s.data.toList=1):=by show _=_;unfold letterLen;simp[h1,h2,h3,h4,h5,h6,h7,h8,k1]
   go_enter Tryz.func186,Tryz.ntmps186
   go_wp2_with (go_at_call 145;refine (in_any s _ _ _ _ (by omega) (by omega) (by omega) (by omega)).mono ?_;rintro e w' ⟨rfl,rfl⟩)
   go_ret
   exact⟨by rw[HL.out];rfl,rfl⟩
  ·cases k2:bt s.data.toList 2 128 191
   ·have HL:Hid (letterLen s.data.toList=1):=by show _=_;unfold letterLen;simp[h1,h2,h3,h4,h5,h6,h7,h8,k1,k2]
    go_enter Tryz.func186,Tryz.ntmps186
    go_wp2_with (go_at_call 145;refine (in_any s _ _ _ _ (by omega) (by omega) (by omega) (by omega)).mono ?_;rintro e w' ⟨rfl,rfl⟩)
    go_ret
    exact⟨by rw[HL.out];rfl,rfl⟩
   ·have HL:Hid (letterLen s.data.toList=3):=by show _=_;unfold letterLen;simp[h1,h2,h3,h4,h5,h6,h7,h8,k1,k2]
    go_enter Tryz.func186,Tryz.ntmps186
    go_wp2_with (go_at_call 145;refine (in_any s _ _ _ _ (by omega) (by omega) (by omega) (by omega)).mono ?_;rintro e w' ⟨rfl,rfl⟩)
    go_ret
    exact⟨by rw[HL.out];rfl,rfl⟩
 ·intro h1 h2 h3 h4 h5 h6 h7 h8
  cases k1:bt s.data.toList 1 128 191
  ·have HL:Hid (letterLen s.data.toList=1):=by show _=_;unfold letterLen;simp[h1,h2,h3,h4,h5,h6,h7,h8,k1]
   go_enter Tryz.func186,Tryz.ntmps186
   go_wp2_with (go_at_call 145;refine (in_any s _ _ _ _ (by omega) (by omega) (by omega) (by omega)).mono ?_;rintro e w' ⟨rfl,rfl⟩)
   go_ret
   exact⟨by rw[HL.out];rfl,rfl⟩
  ·cases k2:bt s.data.toList 2 128 191
   ·have HL:Hid (letterLen s.data.toList=1):=by show _=_;unfold letterLen;simp[h1,h2,h3,h4,h5,h6,h7,h8,k1,k2]
    go_enter Tryz.func186,Tryz.ntmps186
    go_wp2_with (go_at_call 145;refine (in_any s _ _ _ _ (by omega) (by omega) (by omega) (by omega)).mono ?_;rintro e w' ⟨rfl,rfl⟩)
    go_ret
    exact⟨by rw[HL.out];rfl,rfl⟩
   ·have HL:Hid (letterLen s.data.toList=3):=by show _=_;unfold letterLen;simp[h1,h2,h3,h4,h5,h6,h7,h8,k1,k2]
    go_enter Tryz.func186,Tryz.ntmps186
    go_wp2_with (go_at_call 145;refine (in_any s _ _ _ _ (by omega) (by omega) (by omega) (by omega)).mono ?_;rintro e w' ⟨rfl,rfl⟩)
    go_ret
    exact⟨by rw[HL.out];rfl,rfl⟩
 ·intro h1 h2 h3 h4 h5 h6 h7 h8
  cases k1:bt s.data.toList 1 144 191
  ·have HL:Hid (letterLen s.data.toList=1):=by show _=_;unfold letterLen;simp[h1,h2,h3,h4,h5,h6,h7,h8,k1]
   go_enter Tryz.func186,Tryz.ntmps186
   go_wp2_with (go_at_call 145;refine (in_any s _ _ _ _ (by omega) (by omega) (by omega) (by omega)).mono ?_;rintro e w' ⟨rfl,rfl⟩)
   go_ret
   exact⟨by rw[HL.out];rfl,rfl⟩
  ·cases k2:bt s.data.toList 2 128 191
   ·have HL:Hid (letterLen s.data.toList=1):=by show _=_;unfold letterLen;simp[h1,h2,h3,h4,h5,h6,h7,h8,k1,k2]
    go_enter Tryz.func186,Tryz.ntmps186
    go_wp2_with (go_at_call 145;refine (in_any s _ _ _ _ (by omega) (by omega) (by omega) (by omega)).mono ?_;rintro e w' ⟨rfl,rfl⟩)
    go_ret
    exact⟨by rw[HL.out];rfl,rfl⟩
   ·cases k3:bt s.data.toList 3 128 191
    ·have HL:Hid (letterLen s.data.toList=1):=by show _=_;unfold letterLen;simp[h1,h2,h3,h4,h5,h6,h7,h8,k1,k2,k3]
     go_enter Tryz.func186,Tryz.ntmps186
     go_wp2_with (go_at_call 145;refine (in_any s _ _ _ _ (by omega) (by omega) (by omega) (by omega)).mono ?_;rintro e w' ⟨rfl,rfl⟩)
     go_ret
     exact⟨by rw[HL.out];rfl,rfl⟩
    ·have HL:Hid (letterLen s.data.toList=4):=by show _=_;unfold letterLen;simp[h1,h2,h3,h4,h5,h6,h7,h8,k1,k2,k3]
     go_enter Tryz.func186,Tryz.ntmps186
     go_wp2_with (go_at_call 145;refine (in_any s _ _ _ _ (by omega) (by omega) (by omega) (by omega)).mono ?_;rintro e w' ⟨rfl,rfl⟩)
     go_ret
     exact⟨by rw[HL.out];rfl,rfl⟩
 ·intro h1 h2 h3 h4 h5 h6 h7 h8
  cases k1:bt s.data.toList 1 128 191
  ·have HL:Hid (letterLen s.data.toList=1):=by show _=_;unfold letterLen;simp[h1,h2,h3,h4,h5,h6,h7,h8,k1]
   go_enter Tryz.func186,Tryz.ntmps186
   go_wp2_with (go_at_call 145;refine (in_any s _ _ _ _ (by omega) (by omega) (by omega) (by omega)).mono ?_;rintro e w' ⟨rfl,rfl⟩)
   go_ret
   exact⟨by rw[HL.out];rfl,rfl⟩
  ·cases k2:bt s.data.toList 2 128 191
   ·have HL:Hid (letterLen s.data.toList=1):=by show _=_;unfold letterLen;simp[h1,h2,h3,h4,h5,h6,h7,h8,k1,k2]
    go_enter Tryz.func186,Tryz.ntmps186
    go_wp2_with (go_at_call 145;refine (in_any s _ _ _ _ (by omega) (by omega) (by omega) (by omega)).mono ?_;rintro e w' ⟨rfl,rfl⟩)
    go_ret
    exact⟨by rw[HL.out];rfl,rfl⟩
   ·cases k3:bt s.data.toList 3 128 191
    ·have HL:Hid (letterLen s.data.toList=1):=by show _=_;unfold letterLen;simp[h1,h2,h3,h4,h5,h6,h7,h8,k1,k2,k3]
     go_enter Tryz.func186,Tryz.ntmps186
     go_wp2_with (go_at_call 145;refine (in_any s _ _ _ _ (by omega) (by omega) (by omega) (by omega)).mono ?_;rintro e w' ⟨rfl,rfl⟩)
     go_ret
     exact⟨by rw[HL.out];rfl,rfl⟩
    ·have HL:Hid (letterLen s.data.toList=4):=by show _=_;unfold letterLen;simp[h1,h2,h3,h4,h5,h6,h7,h8,k1,k2,k3]
     go_enter Tryz.func186,Tryz.ntmps186
     go_wp2_with (go_at_call 145;refine (in_any s _ _ _ _ (by omega) (by omega) (by omega) (by omega)).mono ?_;rintro e w' ⟨rfl,rfl⟩)
     go_ret
     exact⟨by rw[HL.out];rfl,rfl⟩
 ·intro h1 h2 h3 h4 h5 h6 h7 h8
  cases k1:bt s.data.toList 1 128 143
  ·have HL:Hid (letterLen s.data.toList=1):=by show _=_;unfold letterLen;simp[h1,h2,h3,h4,h5,h6,h7,h8,k1]
   go_enter Tryz.func186,Tryz.ntmps186
   go_wp2_with (go_at_call 145;refine (in_any s _ _ _ _ (by omega) (by omega) (by omega) (by omega)).mono ?_;rintro e w' ⟨rfl,rfl⟩)
   go_ret
   exact⟨by rw[HL.out];rfl,rfl⟩
  ·cases k2:bt s.data.toList 2 128 191
   ·have HL:Hid (letterLen s.data.toList=1):=by show _=_;unfold letterLen;simp[h1,h2,h3,h4,h5,h6,h7,h8,k1,k2]
    go_enter Tryz.func186,Tryz.ntmps186
    go_wp2_with (go_at_call 145;refine (in_any s _ _ _ _ (by omega) (by omega) (by omega) (by omega)).mono ?_;rintro e w' ⟨rfl,rfl⟩)
    go_ret
    exact⟨by rw[HL.out];rfl,rfl⟩
   ·cases k3:bt s.data.toList 3 128 191
    ·have HL:Hid (letterLen s.data.toList=1):=by show _=_;unfold letterLen;simp[h1,h2,h3,h4,h5,h6,h7,h8,k1,k2,k3]
     go_enter Tryz.func186,Tryz.ntmps186
     go_wp2_with (go_at_call 145;refine (in_any s _ _ _ _ (by omega) (by omega) (by omega) (by omega)).mono ?_;rintro e w' ⟨rfl,rfl⟩)
     go_ret
     exact⟨by rw[HL.out];rfl,rfl⟩
    ·have HL:Hid (letterLen s.data.toList=4):=by show _=_;unfold letterLen;simp[h1,h2,h3,h4,h5,h6,h7,h8,k1,k2,k3]
     go_enter Tryz.func186,Tryz.ntmps186
     go_wp2_with (go_at_call 145;refine (in_any s _ _ _ _ (by omega) (by omega) (by omega) (by omega)).mono ?_;rintro e w' ⟨rfl,rfl⟩)
     go_ret
     exact⟨by rw[HL.out];rfl,rfl⟩
 ·intro h1 h2 h3 h4 h5 h6 h7 h8
  have HL:Hid (letterLen s.data.toList=1):=by show _=_;unfold letterLen;simp only[h1,h2,h3,h4,h5,h6,h7,h8,Bool.false_and,Bool.or_self,Bool.false_eq_true,if_false]
  go_enter Tryz.func186,Tryz.ntmps186
  go_wp2_with (go_at_call 145;refine (in_any s _ _ _ _ (by omega) (by omega) (by omega) (by omega)).mono ?_;rintro e w' ⟨rfl,rfl⟩)
  go_ret
  exact⟨by rw[HL.out];rfl,rfl⟩
end Go.Proofs.YtdgmbijjhifbeaaGreatDoor.LikeP
