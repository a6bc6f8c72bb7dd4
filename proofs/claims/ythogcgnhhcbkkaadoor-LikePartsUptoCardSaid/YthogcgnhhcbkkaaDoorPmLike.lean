/- like's and the document's functions as Pure contracts. -/
import Derived.Test.YthogcgnhhcbkkaaDoorPmHand
import Derived.Test.YthogcgnhhcbkkaaDoorPmTry
import Derived.Test.YthogcgnhhcbkkaaDoorLikeTop
import Derived.Test.YthogcgnhhcbkkaaDoorLikeRef2
import Derived.Test.YthogcgnhhcbkkaaDoorLikeRows
namespace Go.Proofs.YthogcgnhhcbkkaaDoor.Pm
open Go.RowKit LikeP

abbrev texts (l : List ByteArray) : PV := .d (.c (.sl 1 (l.map encS)))
theorem p_match (p s : ByteArray) : Pure Tryd.prog 10 [pStr p, pStr s] (.tup [pBool (matB p s), pInt .i64 (matE p s)]) := by
  refine pure_hand (vs := [.string p, .string s]) ⟨_, Tryd.func10, by rfl, by rfl⟩ fun w hG => ?_
  refine (match_any p s w hG).mono ?_
  rintro e w' ⟨rfl, hb⟩
  refine ⟨_, rfl, hb, fun F _ => ?_⟩
  unfold PRep
  exact ⟨[_, _], rfl, by unfold PsRep; exact ⟨rep_bool _, by unfold PsRep; exact ⟨rep_int _ _, by unfold PsRep; trivial⟩⟩⟩
theorem p_check (s : ByteArray) : Pure Tryd.prog 11 [pStr s] (pInt .i64 (patE s)) := by
  refine pure_hand (vs := [.string s]) ⟨_, Tryd.func11, by rfl, by rfl⟩ fun w hG => ?_
  refine (patterncheck_any s w).mono ?_
  rintro e w' ⟨rfl, hb⟩
  exact ⟨_, rfl, hb, fun F _ => rep_int _ _⟩
theorem rep_row {F : Fzn} {w : World} {B : Nat} {v : Value} {l : List ByteArray} (h : w.ownsRow B 9 1 v l.length (l.map Value.string)) (hF : ∀ b o, B ≤ b → b < w.heap.size → F b o) : PRep (fun _ => none) F w (texts l) v := by
  unfold PRep DRep
  exact sl_of_row h (by rw [List.length_map]) (fun r hr => by obtain ⟨x, _, rfl⟩ := List.mem_map.1 hr; rfl) (rep_texts l) hF
theorem p_piecesof (s : ByteArray) (hz : s.size * 16 ≤ 140737488355328) : Pure Tryd.prog 18 [pStr s] (texts (pcs s)) := by
  refine pure_hand (vs := [.string s]) ⟨_, Tryd.func18, by rfl, by rfl⟩ fun w hG => ?_
  refine (piecesof_any s w hz).mono ?_
  rintro e w' ⟨v, rfl, hr, hb⟩
  exact ⟨_, rfl, hb, fun F hF => rep_row hr hF⟩
theorem p_pieces (s : ByteArray) (hz : s.size ≤ 16) : Pure Tryd.prog 14 [pStr s] (.tup [texts (pcs s), pInt .i64 0]) := by
  refine pure_hand (vs := [.string s]) ⟨_, Tryd.func14, by rfl, by rfl⟩ fun w hG => ?_
  refine (lpieces_any s w hG).mono ?_
  rintro e w' (⟨h, _⟩ | ⟨_, v, rfl, hr, hb⟩)
  · omega
  · refine ⟨_, rfl, hb, fun F hF => ?_⟩
    unfold PRep
    exact ⟨[_, _], rfl, by unfold PsRep; exact ⟨rep_row hr hF, by unfold PsRep; exact ⟨rep_int _ _, by unfold PsRep; trivial⟩⟩⟩
theorem p_pieces_no (s : ByteArray) (hz : 16 < s.size) : Pure Tryd.prog 14 [pStr s] (.tup [.d (.c (.v (.slice none 0 0))), pInt .i64 2]) := by
  refine pure_hand (vs := [.string s]) ⟨_, Tryd.func14, by rfl, by rfl⟩ fun w hG => ?_
  refine (lpieces_any s w hG).mono ?_
  rintro e w' (⟨h, rfl, rfl⟩ | ⟨h, _⟩)
  · refine ⟨_, rfl, Below.refl _ _, fun F hF => ?_⟩
    unfold PRep
    exact ⟨[_, _], rfl, by unfold PsRep; exact ⟨rep_of rfl, by unfold PsRep; exact ⟨rep_int _ _, by unfold PsRep; trivial⟩⟩⟩
  · omega
theorem p_read_no (s : ByteArray) : Pure Tryd.prog 22 [pStr s] (.tup [.any, pInt .i64 (patE s)]) := by
  refine pure_hand (vs := [.string s]) ⟨_, Tryd.func22, by rfl, by rfl⟩ fun w hG => ?_
  refine (read_any s w hG).mono ?_
  rintro e w' ⟨⟨v, rfl, _⟩, hb⟩
  refine ⟨_, rfl, hb, fun F hF => ?_⟩
  unfold PRep
  exact ⟨[_, _], rfl, by unfold PsRep; exact ⟨by unfold PRep; trivial, by unfold PsRep; exact ⟨rep_int _ _, by unfold PsRep; trivial⟩⟩⟩
def encP (q : LikeP.Part) : List C := [.v (.int .i32 q.1), .v (.string q.2)]
theorem rep_parts {F : Fzn} {w : World} : ∀ l : List LikeP.Part, CsRep F w (l.map encP).flatten (partCells l)
  | [] => by unfold CsRep; trivial
  | s :: l => by
    rw [List.map_cons, List.flatten_cons]
    show CsRep F w (.v (.int .i32 s.1) :: .v (.string s.2) :: (l.map encP).flatten) (.int .i32 s.1 :: .string s.2 :: partCells l)
    unfold CsRep
    refine ⟨by unfold CRep; exact ⟨rfl, rfl⟩, ?_⟩
    unfold CsRep
    exact ⟨by unfold CRep; exact ⟨rfl, rfl⟩, rep_parts l⟩
theorem p_read (s : ByteArray) (h : patE s = 0) : Pure Tryd.prog 22 [pStr s] (.tup [.d (.c (.sl 2 ((pat s).map encP))), pInt .i64 0]) := by
  refine pure_hand (vs := [.string s]) ⟨_, Tryd.func22, by rfl, by rfl⟩ fun w hG => ?_
  refine (read_any s w hG).mono ?_
  rintro e w' ⟨⟨v, rfl, hr⟩, hb⟩
  refine ⟨_, rfl, hb, fun F hF => ?_⟩
  unfold PRep
  refine ⟨[_, _], rfl, ?_⟩
  unfold PsRep
  refine ⟨?_, ?_⟩
  · unfold PRep DRep
    exact sl_of_row (hr h) (by rw [List.length_map]) (fun r hr => by obtain ⟨x, _, rfl⟩ := List.mem_map.1 hr; rfl) (rep_parts _) hF
  · unfold PsRep
    exact ⟨by rw [h]; exact rep_int _ _, by unfold PsRep; trivial⟩
end Go.Proofs.YthogcgnhhcbkkaaDoor.Pm
