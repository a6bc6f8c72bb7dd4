/- What package page computes, without the program. -/
import Derived.Test.YthenhfhffnjflaaDoorPgData
import Derived.Test.YthenhfhffnjflaaDoorSumOf
namespace Go.Proofs.YthenhfhffnjflaaDoor.Pm
open Go.RowKit SumP SumW
set_option linter.unusedVariables false
set_option linter.unusedSimpArgs false

def pgChk (x : PageD) (len : Int) : Int :=
  if x.No < 0 ∨ 31 < x.No then 3 else if x.Kind < 1 ∨ 4 < x.Kind then 7 else if x.Owner < 0 ∨ 999 < x.Owner then 3 else if 245 < len then 2 else 0
def le4 (c : Int) : List UInt8 := [by1 c, by1 (c / 256), by1 (c / 65536), by1 (c / 16777216)]
def crcI (l : List UInt8) : Int := ((more 0#32 l).toNat : Int)
theorem crcI_range (l : List UInt8) : 0 ≤ crcI l ∧ crcI l < 4294967296 := by
  unfold crcI; have := (more 0#32 l).isLt; omega
def sumL (l : List UInt8) : List UInt8 := le4 (crcI l)
def headL (x : PageD) : List UInt8 :=
  [by1 (x.No / 256), by1 x.No, by1 x.Kind, by1 (x.Owner / 256), by1 x.Owner, by1 ((x.Body.length : Int) / 256), by1 (x.Body.length : Int)] ++ (x.Body ++ List.replicate (245 - x.Body.length) 0)
def sealL (x : PageD) : List UInt8 := headL x ++ sumL (headL x)
theorem headL_len {x : PageD} (h : x.Body.length ≤ 245) : (headL x).length = 252 := by
  unfold headL; simp; omega
theorem sumL_len (l : List UInt8) : (sumL l).length = 4 := rfl
theorem sealL_len {x : PageD} (h : x.Body.length ≤ 245) : (sealL x).length = 256 := by
  unfold sealL; rw [List.length_append, headL_len h, sumL_len]

def n2 (l : List UInt8) (k : Nat) : Int := (l.getD k 0).toNat * 256 + (l.getD (k + 1) 0).toNat
theorem n2_range (l : List UInt8) (k : Nat) : 0 ≤ n2 l k ∧ n2 l k < 65536 := by
  unfold n2; have h1 := u8_lt (l.getD k 0); have h2 := u8_lt (l.getD (k + 1) 0); omega
def summedB (l : List UInt8) : Bool := decide (l.drop 252 = sumL (l.take 252))
def zerosB (l : List UInt8) : Bool := l.all fun b => decide (b = 0)
def pgHead (no : Int) (l : List UInt8) : PageD := ⟨no, ((l.getD 2 0).toNat : Int), n2 l 3, []⟩
def openE (no : Int) (l : List UInt8) : Int :=
  if no < 0 ∨ 31 < no then 3 else if l.length ≠ 256 then 1 else if ¬ (summedB l = true ∧ n2 l 0 = no) then 11
  else if pgChk (pgHead no l) 0 ≠ 0 then pgChk (pgHead no l) 0
  else if 245 < n2 l 5 then 2
  else if zerosB (((l.drop (7 + (n2 l 5).toNat)).take (245 - (n2 l 5).toNat))) = true then 0 else 1
def openP (no : Int) (l : List UInt8) : PageD :=
  if openE no l = 0 then { pgHead no l with Body := (l.drop 7).take (n2 l 5).toNat } else ⟨0, 0, 0, []⟩
abbrev pgV (x : PageD) : PV := .agg (x.c.map D.c)

end Go.Proofs.YthenhfhffnjflaaDoor.Pm
