/- The tables of unicode/utf8, laid: a world that has them; what they say. -/
import Derived.Test.YthenhfhffnjflaaDoorPmHand
import Derived.Test.YthenhfhffnjflaaDoorFrame
import Derived.Lib.LaidIn
import Derived.Lib.LaidU8
import Derived.Test.YthenhfhffnjflaaDoorShelf
import Derived.Test.YthenhfhffnjflaaDoorRows
namespace Go.Proofs.YthenhfhffnjflaaDoor.Pm
open Go.ChangeShapes Go.WideShapes Go.RowKit Go.Lib

noncomputable def laidWorld (os : Os) : World :=
  let w0 := World.holding Tryd.prog os ⟨#[], #[], []⟩
  let put (h : Array Obj) (g : Nat) (cs : Array Value) : Array Obj := h.modify g fun
    | .cells _ t frozen => .cells cs t frozen
    | o => o
  let h1 := put w0.heap 0 (Lib.firstTab.map fun z => Value.int .u8 z).toArray
  let h2 := put h1 1 ((List.range 16).flatMap fun i => [Value.int .u8 (Lib.accLo i), Value.int .u8 (Lib.accHi i)]).toArray
  { w0 with heap := h2 }
abbrev laidList : List (String × DataW Unit) := [("unicode/utf8.acceptRanges", Rows.laid_unicode_utf8_acceptRanges), ("unicode/utf8.first", Rows.laid_unicode_utf8_first)]
theorem laid_met (os : Os) (args : Array Value) : laidMet Tryd.prog laidList ((laidWorld os).forCall (fun _ _ => 0) ⟨#[], args, []⟩).memory :=
  (LaidIn.of_run [0, 1] 8 (by kernel_rfl) (by kernel_rfl) (by kernel_rfl) (by kernel_rfl)).met
theorem tabs_of_laid {W : World} (hL : laidMet Tryd.prog laidList W) : GL W := by
  have h1 := Lib.laidMet.reads hL (.tail _ (.head _))
  have h2 := Lib.laidMet.reads hL (.head _)
  rw [show (Rows.laid_unicode_utf8_first : DataW Unit) = firstData by kernel_rfl] at h1
  rw [show (Rows.laid_unicode_utf8_acceptRanges : DataW Unit) = acceptData by kernel_rfl] at h2
  exact utf8Tabs_of_reads Tryd.lays260 ⟨by kernel_rfl, by kernel_rfl, by kernel_rfl, by kernel_rfl, by kernel_rfl, by kernel_rfl, by kernel_rfl⟩ h1 h2

theorem Pure.walk {P : Program} {f : FuncId} {args : List PV} (h : Pure P f args (pBool true)) {w : World} (hG : GL w) (vs : List Value) (hargs : PsRep (fun _ => none) (fun _ _ => False) w args vs) :
    Calls P f vs.toArray w fun e w' => e = .returned (.bool true) ∧ Below w.heap.size w w' := by
  refine (h.2 (fun _ _ => False) w vs hG (fun _ _ e => e.elim) hargs).mono ?_
  rintro e w' ⟨v, rfl, hb, hr⟩
  rw [rep_v hr]
  exact ⟨rfl, hb⟩
theorem ps_nil {σ : Sg} {F : Fzn} {w : World} : PsRep σ F w [] [] := by unfold PsRep; trivial
theorem ps_cons {σ : Sg} {F : Fzn} {w : World} {x : PV} {xs : List PV} {u : Value} {us : List Value} (h : PRep σ F w x u) (hs : PsRep σ F w xs us) : PsRep σ F w (x :: xs) (u :: us) := by unfold PsRep; exact ⟨h, hs⟩
end Go.Proofs.YthenhfhffnjflaaDoor.Pm
