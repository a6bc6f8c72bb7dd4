/- how many bytes the first piece has: the library's decoder and the table -/
import Derived.Test.YtegpnpdnanfhbaaGreatDoorYLikePure
import Derived.Lib.DecodeN
import Derived.Shelf.Unicode.DecodeSlow
namespace Go.Proofs.YtegpnpdnanfhbaaGreatDoor.LikeP
theorem bt_iff (s:ByteArray) (i lo hi:Nat):bt s.data.toList i lo hi=true↔(i<s.size∧lo≤(s.get! i).toNat∧(s.get! i).toNat≤hi):=by
 unfold bt
 by_cases h:i<s.size
 ·have h1:i<s.data.toList.length:=by rw[size_list];exact h
  rw[List.getElem?_eq_getElem h1]
  have h2:s.get! i=s.data.toList[i]:=by rw[Utf8W.get!_of_lt s i h];rfl
  rw[h2]
  simp[h]
 ·rw[List.getElem?_eq_none (by rw[size_list];omega)]
  simp[h]
theorem decode_len (s:ByteArray) (h:0<s.size):(Lib.decodeGo s).2=ll s:=by
 unfold Lib.decodeGo
 rw[if_neg (by omega),Lib.decode_at]
 unfold ll letterLen Lib.decodeN
 simp only[Bool.and_eq_true,Bool.or_eq_true,bt_iff,Nat.sub_zero,Nat.zero_add]
 have k0:(s.get! 0).toNat<256:=(s.get! 0).toNat_lt
 have k1:(s.get! 1).toNat<256:=(s.get! 1).toNat_lt
 have k2:(s.get! 2).toNat<256:=(s.get! 2).toNat_lt
 have k3:(s.get! 3).toNat<256:=(s.get! 3).toNat_lt
 generalize (s.get! 0).toNat=b0 at *
 generalize (s.get! 1).toNat=b1 at *
 generalize (s.get! 2).toNat=b2 at *
 generalize (s.get! 3).toNat=b3 at *
 generalize s.size=n at *
 (repeat' split)<;>first|rfl | (exfalso;omega)
end Go.Proofs.YtegpnpdnanfhbaaGreatDoor.LikeP
