/- The library contracts of the shelf at this dump, in plain words: written by the kit's tools. -/
import Derived.Shelf.Strings.Builder1
import Derived.Shelf.Small.Strs
import Derived.Shelf.Strconv.Itoa0
import Derived.Shelf.Strconv.Itoa1
import Derived.Shelf.LaysM
import Derived.Shelf.Strconv.Itoa2
import Derived.Shelf.Strconv.Itoa3
import Derived.Shelf.Strconv.Itoa4
import Derived.Shelf.Strings.Search1
import Derived.Shelf.Strings.Prefix
import Derived.Test.YtjbopncobegleaaDoorProg
namespace Go.Proofs
open Go.Shelf
def Tryd.lays170_ren : Go.Shelf.Ren := ⟨fun | 170 => 25 | n => n, fun | 70 => 46 | 3 => 3 | 0 => 0 | 72 => 49 | 37 => 47 | 5 => 5 | n => n, fun | n => n⟩
theorem Tryd.lays170 : Go.Proofs.Lays.n170 Tryd.prog Tryd.lays170_ren := {
 mixed := by kernel_rfl
 f170 := Tryd.func25.trans (congrArg some (by kernel_rfl))
 t0 := Tryd.underlying0
 a0 := Tryd.isAgg0
 z0 := Tryd.sizeOf0
 v0 := Tryd.zeroValue0
 t3 := Tryd.underlying3
 a3 := Tryd.isAgg3
 z3 := Tryd.sizeOf3
 v3 := Tryd.zeroValue3
 t37 := Tryd.underlying47
 a37 := Tryd.isAgg47
 z37 := Tryd.sizeOf47
 v37 := Tryd.zeroValue47
 t70 := Tryd.underlying46
 a70 := Tryd.isAgg46
 z70 := Tryd.sizeOf46
 v70 := Tryd.zeroValue46
 t72 := Tryd.underlying49
 a72 := Tryd.isAgg49
 z72 := Tryd.sizeOf49
 v72 := Tryd.zeroValue49 }
open Go.RowKit in
theorem Tryd.Builder_Len (B b : Nat) (bs : List Value) (w : World) (h : Lib.IsBuilder 49 5 B b bs w) :
  Calls Tryd.prog 25 #[.pointer (some ⟨b, 0, none⟩)] w fun e w' => e = .returned (.int .i64 bs.length) ∧ w' = w := Any.Builder_Len Tryd.lays170 B b bs w h
def Tryd.lays169_ren : Go.Shelf.Ren := ⟨fun | 169 => 26 | n => n, fun | 70 => 46 | 9 => 9 | 0 => 0 | 72 => 49 | 37 => 47 | 127 => 75 | 3 => 3 | 5 => 5 | n => n, fun | n => n⟩
theorem Tryd.lays169 : Go.Proofs.Lays.n169 Tryd.prog Tryd.lays169_ren := {
 mixed := by kernel_rfl
 f169 := Tryd.func26.trans (congrArg some (by kernel_rfl))
 t0 := Tryd.underlying0
 a0 := Tryd.isAgg0
 z0 := Tryd.sizeOf0
 v0 := Tryd.zeroValue0
 t3 := Tryd.underlying3
 a3 := Tryd.isAgg3
 z3 := Tryd.sizeOf3
 v3 := Tryd.zeroValue3
 t9 := Tryd.underlying9
 a9 := Tryd.isAgg9
 z9 := Tryd.sizeOf9
 v9 := Tryd.zeroValue9
 t37 := Tryd.underlying47
 a37 := Tryd.isAgg47
 z37 := Tryd.sizeOf47
 v37 := Tryd.zeroValue47
 t70 := Tryd.underlying46
 a70 := Tryd.isAgg46
 z70 := Tryd.sizeOf46
 v70 := Tryd.zeroValue46
 t72 := Tryd.underlying49
 a72 := Tryd.isAgg49
 z72 := Tryd.sizeOf49
 v72 := Tryd.zeroValue49
 t127 := Tryd.underlying75
 a127 := Tryd.isAgg75
 z127 := Tryd.sizeOf75
 v127 := Tryd.zeroValue75 }
theorem Tryd.Builder_Extra_169 : Builder.Extra Tryd.prog Tryd.lays169_ren := {
 sizeBuilder := by kernel_rfl
 liesBuilder := by kernel_rfl
 t5 := Tryd.underlying5
 a5 := Tryd.isAgg5
 z5 := Tryd.sizeOf5
 v5 := Tryd.zeroValue5
 infoByte := by kernel_rfl
 cellsByte := by kernel_rfl
 sizeByte := by kernel_rfl
 neB5 := by decide }
open Go.RowKit in
theorem Tryd.Builder_String (B b : Nat) (l : List UInt8) (w : World) (h : Lib.IsBuilder 49 5 B b (Lib.byteCells l) w) (h0 : l ≠ []) :
  Calls Tryd.prog 26 #[.pointer (some ⟨b, 0, none⟩)] w fun e w' => e = .returned (.string ⟨l.toArray⟩) ∧ Below B w w' := Any.Builder_String Tryd.lays169 Tryd.Builder_Extra_169 B b l w h h0
open Go.RowKit in
theorem Tryd.Builder_String_empty (B b : Nat) (w : World) (h : Lib.IsBuilder 49 5 B b [] w) (hBw : B ≤ w.heap.size) :
  Calls Tryd.prog 26 #[.pointer (some ⟨b, 0, none⟩)] w fun e w' => e = .returned (.string ⟨#[]⟩) ∧ Below B w w' := Any.Builder_String_empty Tryd.lays169 Tryd.Builder_Extra_169 B b w h hBw
open Go.RowKit in
theorem Tryd.Builder_String_any (B b : Nat) (l : List UInt8) (w : World) (h : Lib.IsBuilder 49 5 B b (Lib.byteCells l) w) (hBw : B ≤ w.heap.size) :
  Calls Tryd.prog 26 #[.pointer (some ⟨b, 0, none⟩)] w fun e w' => e = .returned (.string ⟨l.toArray⟩) ∧ Below B w w' := Any.Builder_String_any Tryd.lays169 Tryd.Builder_Extra_169 B b l w h hBw
def Tryd.lays137_ren : Go.Shelf.Ren := ⟨fun | 137 => 60 | 217 => 75 | 266 => 80 | n => n, fun | 9 => 9 | 5 => 5 | 3 => 3 | n => n, fun | n => n⟩
theorem Tryd.lays137 : Go.Proofs.Lays.n137 Tryd.prog Tryd.lays137_ren := {
 mixed := by kernel_rfl
 f137 := Tryd.func60.trans (congrArg some (by kernel_rfl))
 f217 := Tryd.func75.trans (congrArg some (by kernel_rfl))
 f266 := Tryd.func80.trans (congrArg some (by kernel_rfl))
 t3 := Tryd.underlying3
 a3 := Tryd.isAgg3
 z3 := Tryd.sizeOf3
 v3 := Tryd.zeroValue3
 t5 := Tryd.underlying5
 a5 := Tryd.isAgg5
 z5 := Tryd.sizeOf5
 v5 := Tryd.zeroValue5
 t9 := Tryd.underlying9
 a9 := Tryd.isAgg9
 z9 := Tryd.sizeOf9
 v9 := Tryd.zeroValue9 }
open Go.RowKit in
theorem Tryd.strings_IndexByte (s : ByteArray) (c : Int) (w : World) :
  Calls Tryd.prog 60 #[.string s, .int .u8 c] w fun e w' => e = .returned (.int .i64 (Lib.indexByte s.data.toList c.toNat.toUInt8)) ∧ w' = w := Any.strings_IndexByte Tryd.lays137 s c w
def Tryd.lays129_ren : Go.Shelf.Ren := ⟨fun | 129 => 86 | n => n, fun | 53 => 82 | 3 => 3 | 4 => 4 | 46 => 81 | 5 => 5 | 9 => 9 | n => n, fun | n => n⟩
theorem Tryd.lays129 : Go.Proofs.Lays.n129 Tryd.prog Tryd.lays129_ren := {
 mixed := by kernel_rfl
 f129 := Tryd.func86.trans (congrArg some (by kernel_rfl))
 t3 := Tryd.underlying3
 a3 := Tryd.isAgg3
 z3 := Tryd.sizeOf3
 v3 := Tryd.zeroValue3
 t4 := Tryd.underlying4
 a4 := Tryd.isAgg4
 z4 := Tryd.sizeOf4
 v4 := Tryd.zeroValue4
 t5 := Tryd.underlying5
 a5 := Tryd.isAgg5
 z5 := Tryd.sizeOf5
 v5 := Tryd.zeroValue5
 t9 := Tryd.underlying9
 a9 := Tryd.isAgg9
 z9 := Tryd.sizeOf9
 v9 := Tryd.zeroValue9
 t46 := Tryd.underlying81
 a46 := Tryd.isAgg81
 z46 := Tryd.sizeOf81
 v46 := Tryd.zeroValue81
 t53 := Tryd.underlying82
 a53 := Tryd.isAgg82
 z53 := Tryd.sizeOf82
 v53 := Tryd.zeroValue82 }
theorem Tryd.bits_Len64 (x : Int) (w : World) (h0 : 0 ≤ x) (h1 : x ≤ 18446744073709551615) :
  Calls Tryd.prog 86 #[.int .u64 x] w fun e w' => e = .returned (.int .i64 (Lib.bitLen x.toNat)) ∧ w' = w := Any.bits_Len64 Tryd.lays129 x w h0 h1
def Tryd.lays317_ren : Go.Shelf.Ren := ⟨fun | 317 => 85 | n => n, fun | 3 => 3 | 46 => 81 | n => n, fun | n => n⟩
theorem Tryd.lays317 : Go.Proofs.Lays.n317 Tryd.prog Tryd.lays317_ren := {
 mixed := by kernel_rfl
 f317 := Tryd.func85.trans (congrArg some (by kernel_rfl))
 t3 := Tryd.underlying3
 a3 := Tryd.isAgg3
 z3 := Tryd.sizeOf3
 v3 := Tryd.zeroValue3
 t46 := Tryd.underlying81
 a46 := Tryd.isAgg81
 z46 := Tryd.sizeOf81
 v46 := Tryd.zeroValue81 }
open Go.Lib in
theorem Tryd.internal_strconv_log10Pow2 (x : Nat) (h : x ≤ 64) (w : World) :
  Calls Tryd.prog 85 #[.int .i64 x] w fun e w' => e = .returned (.int .i64 (Lib.l10 x)) ∧ w' = w := Any.internal_strconv_log10Pow2 Tryd.lays317 x h w
def Tryd.lays318_ren : Go.Shelf.Ren := ⟨fun | 318 => 87 | n => n, fun | 3 => 3 | 4 => 4 | n => n, fun | n => n⟩
theorem Tryd.lays318 : Go.Proofs.Lays.n318 Tryd.prog Tryd.lays318_ren := {
 mixed := by kernel_rfl
 f318 := Tryd.func87.trans (congrArg some (by kernel_rfl))
 t3 := Tryd.underlying3
 a3 := Tryd.isAgg3
 z3 := Tryd.sizeOf3
 v3 := Tryd.zeroValue3
 t4 := Tryd.underlying4
 a4 := Tryd.isAgg4
 z4 := Tryd.sizeOf4
 v4 := Tryd.zeroValue4 }
open Go.Lib in
theorem Tryd.internal_strconv_bool2_int (b : Bool) (w : World) :
  Calls Tryd.prog 87 #[.bool b] w fun e w' => e = .returned (.int .i64 (if b then 1 else 0)) ∧ w' = w := Any.internal_strconv_bool2_int Tryd.lays318 b w
def Tryd.lays283_ren : Go.Shelf.Ren := ⟨fun | 283 => 81 | n => n, fun | 3 => 3 | 9 => 9 | 4 => 4 | n => n, fun | n => n⟩
theorem Tryd.lays283 : Go.Proofs.Lays.n283 Tryd.prog Tryd.lays283_ren := {
 mixed := by kernel_rfl
 f283 := Tryd.func81.trans (congrArg some (by kernel_rfl))
 t3 := Tryd.underlying3
 a3 := Tryd.isAgg3
 z3 := Tryd.sizeOf3
 v3 := Tryd.zeroValue3
 t4 := Tryd.underlying4
 a4 := Tryd.isAgg4
 z4 := Tryd.sizeOf4
 v4 := Tryd.zeroValue4
 t9 := Tryd.underlying9
 a9 := Tryd.isAgg9
 z9 := Tryd.sizeOf9
 v9 := Tryd.zeroValue9 }
open Go.Lib in
theorem Tryd.internal_strconv_small (i : Nat) (h : i < 100) (w : World) :
  Calls Tryd.prog 81 #[.int .i64 i] w fun e w' => e = .returned (.string ⟨(Lib.decDigits i).toArray⟩) ∧ w' = w := Any.internal_strconv_small Tryd.lays283 i h w
def Tryd.laysM284_ren : Go.Shelf.Ren := ⟨fun | 284 => 82 | 129 => 86 | 317 => 85 | 318 => 87 | n => n, fun | 53 => 82 | 3 => 3 | 212 => 101 | 0 => 0 | 4 => 4 | 46 => 81 | 5 => 5 | 9 => 9 | n => n, fun | 17 => 1 | n => n⟩
theorem Tryd.laysM284 : Go.Proofs.LaysM.n284 Tryd.prog Tryd.laysM284_ren := {
 mixed := by kernel_rfl
 f129 := Tryd.func86.trans (congrArg some (by kernel_rfl))
 f284 := Tryd.func82.trans (congrArg some (by kernel_rfl))
 f317 := Tryd.func85.trans (congrArg some (by kernel_rfl))
 f318 := Tryd.func87.trans (congrArg some (by kernel_rfl))
 t0 := Tryd.underlying0
 a0 := Tryd.isAgg0
 z0 := Tryd.sizeOf0
 v0 := Tryd.zeroValue0
 t3 := Tryd.underlying3
 a3 := Tryd.isAgg3
 z3 := Tryd.sizeOf3
 v3 := Tryd.zeroValue3
 t4 := Tryd.underlying4
 a4 := Tryd.isAgg4
 z4 := Tryd.sizeOf4
 v4 := Tryd.zeroValue4
 t5 := Tryd.underlying5
 a5 := Tryd.isAgg5
 z5 := Tryd.sizeOf5
 v5 := Tryd.zeroValue5
 t9 := Tryd.underlying9
 a9 := Tryd.isAgg9
 z9 := Tryd.sizeOf9
 v9 := Tryd.zeroValue9
 t46 := Tryd.underlying81
 a46 := Tryd.isAgg81
 z46 := Tryd.sizeOf81
 v46 := Tryd.zeroValue81
 t53 := Tryd.underlying82
 a53 := Tryd.isAgg82
 z53 := Tryd.sizeOf82
 v53 := Tryd.zeroValue82
 t212 := Tryd.underlying101
 a212 := Tryd.isAgg101
 z212 := Tryd.sizeOf101
 v212 := Tryd.zeroValue101
 g17 := by kernel_rfl
 i0 := by kernel_rfl
 i3 := by kernel_rfl
 i4 := by kernel_rfl
 i5 := by kernel_rfl
 i9 := by kernel_rfl
 i46 := by kernel_rfl
 i53 := by kernel_rfl
 i212 := by kernel_rfl
 m17 := by kernel_rfl }
open Go.Lib in
theorem Tryd.internal_strconv_numDigits (u : Nat) (h1 : 1 ≤ u) (h2 : u < 18446744073709551616) (w : World) (htab : Lib.TabIs Tryd.prog w "internal/strconv.uint64pow10" .u64 Lib.pow10Tab) :
  Calls Tryd.prog 82 #[.int .u64 u] w fun e w' => e = .returned (.int .i64 (Lib.nDigits u)) ∧ w' = w := Any.internal_strconv_numDigits Tryd.laysM284 u h1 h2 w htab
def Tryd.lays285_ren : Go.Shelf.Ren := ⟨fun | 285 => 83 | n => n, fun | 37 => 47 | 53 => 82 | 3 => 3 | 4 => 4 | 51 => 102 | 9 => 9 | 5 => 5 | 0 => 0 | n => n, fun | n => n⟩
theorem Tryd.lays285 : Go.Proofs.Lays.n285 Tryd.prog Tryd.lays285_ren := {
 mixed := by kernel_rfl
 f285 := Tryd.func83.trans (congrArg some (by kernel_rfl))
 t0 := Tryd.underlying0
 a0 := Tryd.isAgg0
 z0 := Tryd.sizeOf0
 v0 := Tryd.zeroValue0
 t3 := Tryd.underlying3
 a3 := Tryd.isAgg3
 z3 := Tryd.sizeOf3
 v3 := Tryd.zeroValue3
 t4 := Tryd.underlying4
 a4 := Tryd.isAgg4
 z4 := Tryd.sizeOf4
 v4 := Tryd.zeroValue4
 t5 := Tryd.underlying5
 a5 := Tryd.isAgg5
 z5 := Tryd.sizeOf5
 v5 := Tryd.zeroValue5
 t9 := Tryd.underlying9
 a9 := Tryd.isAgg9
 z9 := Tryd.sizeOf9
 v9 := Tryd.zeroValue9
 t37 := Tryd.underlying47
 a37 := Tryd.isAgg47
 z37 := Tryd.sizeOf47
 v37 := Tryd.zeroValue47
 t51 := Tryd.underlying102
 a51 := Tryd.isAgg102
 z51 := Tryd.sizeOf102
 v51 := Tryd.zeroValue102
 t53 := Tryd.underlying82
 a53 := Tryd.isAgg82
 z53 := Tryd.sizeOf82
 v53 := Tryd.zeroValue82 }
open Go.RowKit Go.Sort Go.Lib in
theorem Tryd.internal_strconv_formatBase10 (blk off cap : Nat) (u : Nat) (d : Array UInt8) (w : World) (hH : Holds (fun (b : UInt8) => Value.int .u8 (b.toNat : Int)) w blk off d) (hu : u < 10 ^ d.size) (hu64 : u < 18446744073709551616) (hsz : d.size < 4611686018427387904) :
  Calls Tryd.prog 83 #[.slice (some ⟨blk, off, none⟩) d.size cap, .int .u64 u] w fun e w' =>
   e = .returned (.tuple #[]) ∧ ∃ (n v' : Nat) (dk : Array UInt8), w' = (putRow (fun (b : UInt8) => Value.int .u8 (b.toNat : Int)) w blk off dk).drewN n ∧ FmtInv d.size u 0 v' dk := Any.internal_strconv_formatBase10 Tryd.lays285 blk off cap u d w hH hu hu64 hsz
def Tryd.laysM246_ren : Go.Shelf.Ren := ⟨fun | 246 => 79 | 283 => 81 | 284 => 82 | 285 => 83 | 286 => 84 | 129 => 86 | 317 => 85 | 318 => 87 | 319 => 88 | 320 => 89 | 337 => 90 | 338 => 91 | n => n, fun | 2 => 2 | 3 => 3 | 9 => 9 | 4 => 4 | 171 => 94 | 0 => 0 | 53 => 82 | 37 => 47 | 5 => 5 | 173 => 97 | 212 => 101 | 51 => 102 | 20 => 20 | 213 => 103 | 46 => 81 | 232 => 107 | 233 => 108 | n => n, fun | 17 => 1 | 18 => 2 | 19 => 3 | n => n⟩
theorem Tryd.laysM246 : Go.Proofs.LaysM.n246 Tryd.prog Tryd.laysM246_ren := {
 mixed := by kernel_rfl
 f129 := Tryd.func86.trans (congrArg some (by kernel_rfl))
 f246 := Tryd.func79.trans (congrArg some (by kernel_rfl))
 f283 := Tryd.func81.trans (congrArg some (by kernel_rfl))
 f284 := Tryd.func82.trans (congrArg some (by kernel_rfl))
 f285 := Tryd.func83.trans (congrArg some (by kernel_rfl))
 f286 := Tryd.func84.trans (congrArg some (by kernel_rfl))
 f317 := Tryd.func85.trans (congrArg some (by kernel_rfl))
 f318 := Tryd.func87.trans (congrArg some (by kernel_rfl))
 f319 := Tryd.func88.trans (congrArg some (by kernel_rfl))
 f320 := Tryd.func89.trans (congrArg some (by kernel_rfl))
 f337 := Tryd.func90.trans (congrArg some (by kernel_rfl))
 f338 := Tryd.func91.trans (congrArg some (by kernel_rfl))
 t0 := Tryd.underlying0
 a0 := Tryd.isAgg0
 z0 := Tryd.sizeOf0
 v0 := Tryd.zeroValue0
 t2 := Tryd.underlying2
 a2 := Tryd.isAgg2
 z2 := Tryd.sizeOf2
 v2 := Tryd.zeroValue2
 t3 := Tryd.underlying3
 a3 := Tryd.isAgg3
 z3 := Tryd.sizeOf3
 v3 := Tryd.zeroValue3
 t4 := Tryd.underlying4
 a4 := Tryd.isAgg4
 z4 := Tryd.sizeOf4
 v4 := Tryd.zeroValue4
 t5 := Tryd.underlying5
 a5 := Tryd.isAgg5
 z5 := Tryd.sizeOf5
 v5 := Tryd.zeroValue5
 t9 := Tryd.underlying9
 a9 := Tryd.isAgg9
 z9 := Tryd.sizeOf9
 v9 := Tryd.zeroValue9
 t20 := Tryd.underlying20
 a20 := Tryd.isAgg20
 z20 := Tryd.sizeOf20
 v20 := Tryd.zeroValue20
 t37 := Tryd.underlying47
 a37 := Tryd.isAgg47
 z37 := Tryd.sizeOf47
 v37 := Tryd.zeroValue47
 t46 := Tryd.underlying81
 a46 := Tryd.isAgg81
 z46 := Tryd.sizeOf81
 v46 := Tryd.zeroValue81
 t51 := Tryd.underlying102
 a51 := Tryd.isAgg102
 z51 := Tryd.sizeOf102
 v51 := Tryd.zeroValue102
 t53 := Tryd.underlying82
 a53 := Tryd.isAgg82
 z53 := Tryd.sizeOf82
 v53 := Tryd.zeroValue82
 t171 := Tryd.underlying94
 a171 := Tryd.isAgg94
 z171 := Tryd.sizeOf94
 v171 := Tryd.zeroValue94
 t173 := Tryd.underlying97
 a173 := Tryd.isAgg97
 z173 := Tryd.sizeOf97
 v173 := Tryd.zeroValue97
 t212 := Tryd.underlying101
 a212 := Tryd.isAgg101
 z212 := Tryd.sizeOf101
 v212 := Tryd.zeroValue101
 t213 := Tryd.underlying103
 a213 := Tryd.isAgg103
 z213 := Tryd.sizeOf103
 t232 := Tryd.underlying107
 a232 := Tryd.isAgg107
 z232 := Tryd.sizeOf107
 v232 := Tryd.zeroValue107
 t233 := Tryd.underlying108
 a233 := Tryd.isAgg108
 z233 := Tryd.sizeOf108
 v233 := Tryd.zeroValue108
 g17 := by kernel_rfl
 g18 := by kernel_rfl
 g19 := by kernel_rfl
 i0 := by kernel_rfl
 i2 := by kernel_rfl
 i3 := by kernel_rfl
 i4 := by kernel_rfl
 i5 := by kernel_rfl
 i9 := by kernel_rfl
 i20 := by kernel_rfl
 i37 := by kernel_rfl
 i46 := by kernel_rfl
 i51 := by kernel_rfl
 i53 := by kernel_rfl
 i171 := by kernel_rfl
 i173 := by kernel_rfl
 i212 := by kernel_rfl
 i232 := by kernel_rfl
 i233 := by kernel_rfl
 m17 := by kernel_rfl
 m18 := by kernel_rfl
 m19 := by kernel_rfl }
open Go.RowKit Go.Sort Go.Lib in
theorem Tryd.internal_strconv_FormatInt_10 (n : Int) (h0 : -9223372036854775808 ≤ n) (h1 : n ≤ 9223372036854775807) (w : World) (htab : Lib.TabIs Tryd.prog w "internal/strconv.uint64pow10" .u64 Lib.pow10Tab) :
  Calls Tryd.prog 79 #[.int .i64 n, .int .i64 10] w fun e w' => e = .returned (.string ⟨(Lib.itoa n).toArray⟩) ∧ ∃ k os, w' = grow (w.drewN k) os := Any.internal_strconv_FormatInt_10 Tryd.laysM246 n h0 h1 w htab
def Tryd.lays246_ren : Go.Shelf.Ren := ⟨fun | 246 => 79 | 283 => 81 | 284 => 82 | 285 => 83 | 286 => 84 | 129 => 86 | 317 => 85 | 318 => 87 | 319 => 88 | 320 => 89 | 337 => 90 | 338 => 91 | n => n, fun | 2 => 2 | 3 => 3 | 9 => 9 | 4 => 4 | 171 => 94 | 0 => 0 | 53 => 82 | 37 => 47 | 5 => 5 | 173 => 97 | 212 => 101 | 51 => 102 | 20 => 20 | 213 => 103 | 46 => 81 | 232 => 107 | 233 => 108 | n => n, fun | 17 => 1 | 18 => 2 | 19 => 3 | n => n⟩
theorem Tryd.lays246 : Go.Proofs.Lays.n246 Tryd.prog Tryd.lays246_ren := {
 mixed := by kernel_rfl
 f129 := Tryd.func86.trans (congrArg some (by kernel_rfl))
 f246 := Tryd.func79.trans (congrArg some (by kernel_rfl))
 f283 := Tryd.func81.trans (congrArg some (by kernel_rfl))
 f284 := Tryd.func82.trans (congrArg some (by kernel_rfl))
 f285 := Tryd.func83.trans (congrArg some (by kernel_rfl))
 f286 := Tryd.func84.trans (congrArg some (by kernel_rfl))
 f317 := Tryd.func85.trans (congrArg some (by kernel_rfl))
 f318 := Tryd.func87.trans (congrArg some (by kernel_rfl))
 f319 := Tryd.func88.trans (congrArg some (by kernel_rfl))
 f320 := Tryd.func89.trans (congrArg some (by kernel_rfl))
 f337 := Tryd.func90.trans (congrArg some (by kernel_rfl))
 f338 := Tryd.func91.trans (congrArg some (by kernel_rfl))
 t0 := Tryd.underlying0
 a0 := Tryd.isAgg0
 z0 := Tryd.sizeOf0
 v0 := Tryd.zeroValue0
 t2 := Tryd.underlying2
 a2 := Tryd.isAgg2
 z2 := Tryd.sizeOf2
 v2 := Tryd.zeroValue2
 t3 := Tryd.underlying3
 a3 := Tryd.isAgg3
 z3 := Tryd.sizeOf3
 v3 := Tryd.zeroValue3
 t4 := Tryd.underlying4
 a4 := Tryd.isAgg4
 z4 := Tryd.sizeOf4
 v4 := Tryd.zeroValue4
 t5 := Tryd.underlying5
 a5 := Tryd.isAgg5
 z5 := Tryd.sizeOf5
 v5 := Tryd.zeroValue5
 t9 := Tryd.underlying9
 a9 := Tryd.isAgg9
 z9 := Tryd.sizeOf9
 v9 := Tryd.zeroValue9
 t20 := Tryd.underlying20
 a20 := Tryd.isAgg20
 z20 := Tryd.sizeOf20
 v20 := Tryd.zeroValue20
 t37 := Tryd.underlying47
 a37 := Tryd.isAgg47
 z37 := Tryd.sizeOf47
 v37 := Tryd.zeroValue47
 t46 := Tryd.underlying81
 a46 := Tryd.isAgg81
 z46 := Tryd.sizeOf81
 v46 := Tryd.zeroValue81
 t51 := Tryd.underlying102
 a51 := Tryd.isAgg102
 z51 := Tryd.sizeOf102
 v51 := Tryd.zeroValue102
 t53 := Tryd.underlying82
 a53 := Tryd.isAgg82
 z53 := Tryd.sizeOf82
 v53 := Tryd.zeroValue82
 t171 := Tryd.underlying94
 a171 := Tryd.isAgg94
 z171 := Tryd.sizeOf94
 v171 := Tryd.zeroValue94
 t173 := Tryd.underlying97
 a173 := Tryd.isAgg97
 z173 := Tryd.sizeOf97
 v173 := Tryd.zeroValue97
 t212 := Tryd.underlying101
 a212 := Tryd.isAgg101
 z212 := Tryd.sizeOf101
 v212 := Tryd.zeroValue101
 t213 := Tryd.underlying103
 a213 := Tryd.isAgg103
 z213 := Tryd.sizeOf103
 t232 := Tryd.underlying107
 a232 := Tryd.isAgg107
 z232 := Tryd.sizeOf107
 v232 := Tryd.zeroValue107
 t233 := Tryd.underlying108
 a233 := Tryd.isAgg108
 z233 := Tryd.sizeOf108
 v233 := Tryd.zeroValue108
 g17 := by kernel_rfl
 g18 := by kernel_rfl
 g19 := by kernel_rfl }
open Go.RowKit Go.Sort Go.Lib in
theorem Tryd.internal_strconv_FormatInt_10_small (i : Nat) (hi : i < 100) (w : World) :
  Calls Tryd.prog 79 #[.int .i64 i, .int .i64 10] w fun e w' => e = .returned (.string ⟨(Lib.decDigits i).toArray⟩) ∧ w' = w := Any.internal_strconv_FormatInt_10_small Tryd.lays246 i hi w
def Tryd.laysM173_ren : Go.Shelf.Ren := ⟨fun | 173 => 70 | 246 => 79 | 283 => 81 | 284 => 82 | 285 => 83 | 286 => 84 | 129 => 86 | 317 => 85 | 318 => 87 | 319 => 88 | 320 => 89 | 337 => 90 | 338 => 91 | n => n, fun | 2 => 2 | 3 => 3 | 9 => 9 | 4 => 4 | 171 => 94 | 0 => 0 | 53 => 82 | 37 => 47 | 5 => 5 | 173 => 97 | 212 => 101 | 51 => 102 | 20 => 20 | 213 => 103 | 46 => 81 | 232 => 107 | 233 => 108 | n => n, fun | 17 => 1 | 18 => 2 | 19 => 3 | n => n⟩
theorem Tryd.laysM173 : Go.Proofs.LaysM.n173 Tryd.prog Tryd.laysM173_ren := {
 mixed := by kernel_rfl
 f129 := Tryd.func86.trans (congrArg some (by kernel_rfl))
 f173 := Tryd.func70.trans (congrArg some (by kernel_rfl))
 f246 := Tryd.func79.trans (congrArg some (by kernel_rfl))
 f283 := Tryd.func81.trans (congrArg some (by kernel_rfl))
 f284 := Tryd.func82.trans (congrArg some (by kernel_rfl))
 f285 := Tryd.func83.trans (congrArg some (by kernel_rfl))
 f286 := Tryd.func84.trans (congrArg some (by kernel_rfl))
 f317 := Tryd.func85.trans (congrArg some (by kernel_rfl))
 f318 := Tryd.func87.trans (congrArg some (by kernel_rfl))
 f319 := Tryd.func88.trans (congrArg some (by kernel_rfl))
 f320 := Tryd.func89.trans (congrArg some (by kernel_rfl))
 f337 := Tryd.func90.trans (congrArg some (by kernel_rfl))
 f338 := Tryd.func91.trans (congrArg some (by kernel_rfl))
 t0 := Tryd.underlying0
 a0 := Tryd.isAgg0
 z0 := Tryd.sizeOf0
 v0 := Tryd.zeroValue0
 t2 := Tryd.underlying2
 a2 := Tryd.isAgg2
 z2 := Tryd.sizeOf2
 v2 := Tryd.zeroValue2
 t3 := Tryd.underlying3
 a3 := Tryd.isAgg3
 z3 := Tryd.sizeOf3
 v3 := Tryd.zeroValue3
 t4 := Tryd.underlying4
 a4 := Tryd.isAgg4
 z4 := Tryd.sizeOf4
 v4 := Tryd.zeroValue4
 t5 := Tryd.underlying5
 a5 := Tryd.isAgg5
 z5 := Tryd.sizeOf5
 v5 := Tryd.zeroValue5
 t9 := Tryd.underlying9
 a9 := Tryd.isAgg9
 z9 := Tryd.sizeOf9
 v9 := Tryd.zeroValue9
 t20 := Tryd.underlying20
 a20 := Tryd.isAgg20
 z20 := Tryd.sizeOf20
 v20 := Tryd.zeroValue20
 t37 := Tryd.underlying47
 a37 := Tryd.isAgg47
 z37 := Tryd.sizeOf47
 v37 := Tryd.zeroValue47
 t46 := Tryd.underlying81
 a46 := Tryd.isAgg81
 z46 := Tryd.sizeOf81
 v46 := Tryd.zeroValue81
 t51 := Tryd.underlying102
 a51 := Tryd.isAgg102
 z51 := Tryd.sizeOf102
 v51 := Tryd.zeroValue102
 t53 := Tryd.underlying82
 a53 := Tryd.isAgg82
 z53 := Tryd.sizeOf82
 v53 := Tryd.zeroValue82
 t171 := Tryd.underlying94
 a171 := Tryd.isAgg94
 z171 := Tryd.sizeOf94
 v171 := Tryd.zeroValue94
 t173 := Tryd.underlying97
 a173 := Tryd.isAgg97
 z173 := Tryd.sizeOf97
 v173 := Tryd.zeroValue97
 t212 := Tryd.underlying101
 a212 := Tryd.isAgg101
 z212 := Tryd.sizeOf101
 v212 := Tryd.zeroValue101
 t213 := Tryd.underlying103
 a213 := Tryd.isAgg103
 z213 := Tryd.sizeOf103
 t232 := Tryd.underlying107
 a232 := Tryd.isAgg107
 z232 := Tryd.sizeOf107
 v232 := Tryd.zeroValue107
 t233 := Tryd.underlying108
 a233 := Tryd.isAgg108
 z233 := Tryd.sizeOf108
 v233 := Tryd.zeroValue108
 g17 := by kernel_rfl
 g18 := by kernel_rfl
 g19 := by kernel_rfl
 i0 := by kernel_rfl
 i2 := by kernel_rfl
 i3 := by kernel_rfl
 i4 := by kernel_rfl
 i5 := by kernel_rfl
 i9 := by kernel_rfl
 i20 := by kernel_rfl
 i37 := by kernel_rfl
 i46 := by kernel_rfl
 i51 := by kernel_rfl
 i53 := by kernel_rfl
 i171 := by kernel_rfl
 i173 := by kernel_rfl
 i212 := by kernel_rfl
 i232 := by kernel_rfl
 i233 := by kernel_rfl
 m17 := by kernel_rfl
 m18 := by kernel_rfl
 m19 := by kernel_rfl }
open Go.RowKit Go.Sort Go.Lib in
theorem Tryd.strconv_FormatInt_10 (n : Int) (h0 : -9223372036854775808 ≤ n) (h1 : n ≤ 9223372036854775807) (w : World) (htab : Lib.TabIs Tryd.prog w "internal/strconv.uint64pow10" .u64 Lib.pow10Tab) :
  Calls Tryd.prog 70 #[.int .i64 n, .int .i64 10] w fun e w' => e = .returned (.string ⟨(Lib.itoa n).toArray⟩) ∧ ∃ k os, w' = grow (w.drewN k) os := Any.strconv_FormatInt_10 Tryd.laysM173 n h0 h1 w htab
def Tryd.lays173_ren : Go.Shelf.Ren := ⟨fun | 173 => 70 | 246 => 79 | 283 => 81 | 284 => 82 | 285 => 83 | 286 => 84 | 129 => 86 | 317 => 85 | 318 => 87 | 319 => 88 | 320 => 89 | 337 => 90 | 338 => 91 | n => n, fun | 2 => 2 | 3 => 3 | 9 => 9 | 4 => 4 | 171 => 94 | 0 => 0 | 53 => 82 | 37 => 47 | 5 => 5 | 173 => 97 | 212 => 101 | 51 => 102 | 20 => 20 | 213 => 103 | 46 => 81 | 232 => 107 | 233 => 108 | n => n, fun | 17 => 1 | 18 => 2 | 19 => 3 | n => n⟩
theorem Tryd.lays173 : Go.Proofs.Lays.n173 Tryd.prog Tryd.lays173_ren := {
 mixed := by kernel_rfl
 f129 := Tryd.func86.trans (congrArg some (by kernel_rfl))
 f173 := Tryd.func70.trans (congrArg some (by kernel_rfl))
 f246 := Tryd.func79.trans (congrArg some (by kernel_rfl))
 f283 := Tryd.func81.trans (congrArg some (by kernel_rfl))
 f284 := Tryd.func82.trans (congrArg some (by kernel_rfl))
 f285 := Tryd.func83.trans (congrArg some (by kernel_rfl))
 f286 := Tryd.func84.trans (congrArg some (by kernel_rfl))
 f317 := Tryd.func85.trans (congrArg some (by kernel_rfl))
 f318 := Tryd.func87.trans (congrArg some (by kernel_rfl))
 f319 := Tryd.func88.trans (congrArg some (by kernel_rfl))
 f320 := Tryd.func89.trans (congrArg some (by kernel_rfl))
 f337 := Tryd.func90.trans (congrArg some (by kernel_rfl))
 f338 := Tryd.func91.trans (congrArg some (by kernel_rfl))
 t0 := Tryd.underlying0
 a0 := Tryd.isAgg0
 z0 := Tryd.sizeOf0
 v0 := Tryd.zeroValue0
 t2 := Tryd.underlying2
 a2 := Tryd.isAgg2
 z2 := Tryd.sizeOf2
 v2 := Tryd.zeroValue2
 t3 := Tryd.underlying3
 a3 := Tryd.isAgg3
 z3 := Tryd.sizeOf3
 v3 := Tryd.zeroValue3
 t4 := Tryd.underlying4
 a4 := Tryd.isAgg4
 z4 := Tryd.sizeOf4
 v4 := Tryd.zeroValue4
 t5 := Tryd.underlying5
 a5 := Tryd.isAgg5
 z5 := Tryd.sizeOf5
 v5 := Tryd.zeroValue5
 t9 := Tryd.underlying9
 a9 := Tryd.isAgg9
 z9 := Tryd.sizeOf9
 v9 := Tryd.zeroValue9
 t20 := Tryd.underlying20
 a20 := Tryd.isAgg20
 z20 := Tryd.sizeOf20
 v20 := Tryd.zeroValue20
 t37 := Tryd.underlying47
 a37 := Tryd.isAgg47
 z37 := Tryd.sizeOf47
 v37 := Tryd.zeroValue47
 t46 := Tryd.underlying81
 a46 := Tryd.isAgg81
 z46 := Tryd.sizeOf81
 v46 := Tryd.zeroValue81
 t51 := Tryd.underlying102
 a51 := Tryd.isAgg102
 z51 := Tryd.sizeOf102
 v51 := Tryd.zeroValue102
 t53 := Tryd.underlying82
 a53 := Tryd.isAgg82
 z53 := Tryd.sizeOf82
 v53 := Tryd.zeroValue82
 t171 := Tryd.underlying94
 a171 := Tryd.isAgg94
 z171 := Tryd.sizeOf94
 v171 := Tryd.zeroValue94
 t173 := Tryd.underlying97
 a173 := Tryd.isAgg97
 z173 := Tryd.sizeOf97
 v173 := Tryd.zeroValue97
 t212 := Tryd.underlying101
 a212 := Tryd.isAgg101
 z212 := Tryd.sizeOf101
 v212 := Tryd.zeroValue101
 t213 := Tryd.underlying103
 a213 := Tryd.isAgg103
 z213 := Tryd.sizeOf103
 t232 := Tryd.underlying107
 a232 := Tryd.isAgg107
 z232 := Tryd.sizeOf107
 v232 := Tryd.zeroValue107
 t233 := Tryd.underlying108
 a233 := Tryd.isAgg108
 z233 := Tryd.sizeOf108
 v233 := Tryd.zeroValue108
 g17 := by kernel_rfl
 g18 := by kernel_rfl
 g19 := by kernel_rfl }
open Go.RowKit Go.Sort Go.Lib in
theorem Tryd.strconv_FormatInt_10_small (i : Nat) (hi : i < 100) (w : World) :
  Calls Tryd.prog 70 #[.int .i64 i, .int .i64 10] w fun e w' => e = .returned (.string ⟨(Lib.decDigits i).toArray⟩) ∧ w' = w := Any.strconv_FormatInt_10_small Tryd.lays173 i hi w
def Tryd.lays217_ren : Go.Shelf.Ren := ⟨fun | 217 => 75 | 266 => 80 | n => n, fun | 9 => 9 | 5 => 5 | 3 => 3 | n => n, fun | n => n⟩
theorem Tryd.lays217 : Go.Proofs.Lays.n217 Tryd.prog Tryd.lays217_ren := {
 mixed := by kernel_rfl
 f217 := Tryd.func75.trans (congrArg some (by kernel_rfl))
 f266 := Tryd.func80.trans (congrArg some (by kernel_rfl))
 t3 := Tryd.underlying3
 a3 := Tryd.isAgg3
 z3 := Tryd.sizeOf3
 v3 := Tryd.zeroValue3
 t5 := Tryd.underlying5
 a5 := Tryd.isAgg5
 z5 := Tryd.sizeOf5
 v5 := Tryd.zeroValue5
 t9 := Tryd.underlying9
 a9 := Tryd.isAgg9
 z9 := Tryd.sizeOf9
 v9 := Tryd.zeroValue9 }
open Go.RowKit Go.Lib in
theorem Tryd.stringslite_IndexByte (s : ByteArray) (c : Int) (w : World) :
  Calls Tryd.prog 75 #[.string s, .int .u8 c] w fun e w' => e = .returned (.int .i64 (Lib.indexByte s.data.toList c.toNat.toUInt8)) ∧ w' = w := Any.stringslite_IndexByte Tryd.lays217 s c w
def Tryd.lays206_ren : Go.Shelf.Ren := ⟨fun | 206 => 58 | n => n, fun | 9 => 9 | 4 => 4 | 3 => 3 | n => n, fun | n => n⟩
theorem Tryd.lays206 : Go.Proofs.Lays.n206 Tryd.prog Tryd.lays206_ren := {
 mixed := by kernel_rfl
 f206 := Tryd.func58.trans (congrArg some (by kernel_rfl))
 t3 := Tryd.underlying3
 a3 := Tryd.isAgg3
 z3 := Tryd.sizeOf3
 v3 := Tryd.zeroValue3
 t4 := Tryd.underlying4
 a4 := Tryd.isAgg4
 z4 := Tryd.sizeOf4
 v4 := Tryd.zeroValue4
 t9 := Tryd.underlying9
 a9 := Tryd.isAgg9
 z9 := Tryd.sizeOf9
 v9 := Tryd.zeroValue9 }
open Go.RowKit Go.Lib in
theorem Tryd.stringslite_HasPrefix (s p : ByteArray) (w : World) :
  Calls Tryd.prog 58 #[.string s, .string p] w fun e w' => e = .returned (.bool (Lib.hasPrefix s.data.toList p.data.toList)) ∧ w' = w := Any.stringslite_HasPrefix Tryd.lays206 s p w
def Tryd.lays99_ren : Go.Shelf.Ren := ⟨fun | 99 => 32 | 206 => 58 | n => n, fun | 9 => 9 | 4 => 4 | 3 => 3 | n => n, fun | n => n⟩
theorem Tryd.lays99 : Go.Proofs.Lays.n99 Tryd.prog Tryd.lays99_ren := {
 mixed := by kernel_rfl
 f99 := Tryd.func32.trans (congrArg some (by kernel_rfl))
 f206 := Tryd.func58.trans (congrArg some (by kernel_rfl))
 t3 := Tryd.underlying3
 a3 := Tryd.isAgg3
 z3 := Tryd.sizeOf3
 v3 := Tryd.zeroValue3
 t4 := Tryd.underlying4
 a4 := Tryd.isAgg4
 z4 := Tryd.sizeOf4
 v4 := Tryd.zeroValue4
 t9 := Tryd.underlying9
 a9 := Tryd.isAgg9
 z9 := Tryd.sizeOf9
 v9 := Tryd.zeroValue9 }
open Go.RowKit Go.Lib in
theorem Tryd.strings_HasPrefix (s p : ByteArray) (w : World) :
  Calls Tryd.prog 32 #[.string s, .string p] w fun e w' => e = .returned (.bool (Lib.hasPrefix s.data.toList p.data.toList)) ∧ w' = w := Any.strings_HasPrefix Tryd.lays99 s p w
end Go.Proofs
