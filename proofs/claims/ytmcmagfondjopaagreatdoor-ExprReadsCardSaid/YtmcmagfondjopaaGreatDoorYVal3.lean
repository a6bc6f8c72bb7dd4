/- values: the order of two -/
import Derived.Test.YtmcmagfondjopaaGreatDoorYVal2
namespace Go.Proofs.YtmcmagfondjopaaGreatDoor.ValP
open Go.RowKit K
def cmpI (a b : Int) : Int := if a < b then -1 else if b < a then 1 else 0
def cmpS (a b : ByteArray) : Int := Lib.compareBytes a.data.toList b.data.toList
def firstOf : List Int → Int
 | [] => 0
 | x :: l => if x ≠ 0 then x else firstOf l
def order (a b : ValD) : Int := firstOf [cmpI a.1 b.1, cmpI a.2.1 b.2.1, cmpS a.2.2 b.2.2]
theorem cmpI_cases (a b : Int) : cmpI a b = -1 ∨ cmpI a b = 0 ∨ cmpI a b = 1 := by
 unfold cmpI
 split
 ·simp
 ·split <;> simp
theorem compareBytes_cases : ∀ a b : List UInt8, Lib.compareBytes a b = -1 ∨ Lib.compareBytes a b = 0 ∨ Lib.compareBytes a b = 1
 | [], [] => by simp [Lib.compareBytes]
 | [], _ :: _ => by simp [Lib.compareBytes]
 | _ :: _, [] => by simp [Lib.compareBytes]
 | a :: xs, b :: ys => by
  unfold Lib.compareBytes
  split; · simp
  split; · simp
  exact compareBytes_cases xs ys
theorem firstOf_drop (l : List Int) (k : Nat) (hk : k < l.length) : firstOf (l.drop k) = if l[k] ≠ 0 then l[k] else firstOf (l.drop (k + 1)) := by
 rw [List.drop_eq_getElem_cons hk]; rfl
end Go.Proofs.YtmcmagfondjopaaGreatDoor.ValP
