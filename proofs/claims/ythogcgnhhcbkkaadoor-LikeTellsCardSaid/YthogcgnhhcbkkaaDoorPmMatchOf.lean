/- starlingref.MatchOf -/
import Derived.Test.YthogcgnhhcbkkaaDoorPmLikeR
namespace Go.Proofs.YthogcgnhhcbkkaaDoor.Pm
open Go.RowKit LikeP
set_option linter.unusedVariables false
def encB (b : Bool) : List C := [.v (.bool b)]
abbrev tBool : Nat := 4
abbrev rowD (k : Nat) (r : List Bool) : PV := .d (.app k tBool 1 (r.map encB))
theorem row_more {f : Nat → Bool} {m k : Nat} (hk : k < m) {b : Bool} (hb : f k = b) : (((List.range m).map f).take k).map encB ++ [[.v (.bool b)]] = (((List.range m).map f).take (k + 1)).map encB := by
  rw [take_range f m k hk, List.map_append, hb]; rfl
theorem row_len {f : Nat → Bool} {m k : Nat} (hk : k ≤ m) : ((((List.range m).map f).take k).map encB).length = k := by simp; omega
theorem p_matchof (p s : ByteArray) (hp : patE p = 0) (hs : s.size ≤ 16) : Pure Tryd.prog 13 [pStr p, pStr s] (pBool (matB p s)) := by
  obtain ⟨hpz, hop⟩ := patE_ok hp
  have hPl := pcs_length p
  have hTl := pcs_length s
  have hE : matE p s = 0 := by unfold matE; rw [if_neg (by omega), if_neg (by omega)]
  have hfin : ∀ {b : Bool}, (b = true ↔ glob (pat p) (pcs s)) → matB p s = b := fun {b} h => by
    rw [Bool.eq_iff_iff, matB_iff, h]; simp [hE]
  obtain ⟨P, hP⟩ : ∃ P, P = pcs p := ⟨_, rfl⟩
  obtain ⟨T, hT⟩ : ∃ T, T = pcs s := ⟨_, rfl⟩
  have hPL : P.length ≤ 32 := by rw [hP]; omega
  have hTL : T.length ≤ 16 := by rw [hT]; omega
  have hPp : pat p = partsE false P := by rw [hP]; rfl
  have hopP : openE false P = false := by rw [hP]; exact hop
  clear hPl hTl
  refine pure_of Tryd.func13 (by rfl) rfl (by kernel_rfl) (by rfl) ?_
  ((conv => whnf); repeat ((first | with_reducible refine BCase.tt ?_ | with_reducible refine BCase.ff ?_); (conv => whnf)))
  refine CallP.pure _ rfl _ (p_piecesof p (by omega)) ?_
  ((conv => whnf); repeat ((first | with_reducible refine BCase.tt ?_ | with_reducible refine BCase.ff ?_); (conv => whnf)))
  refine CallP.pure _ rfl _ (p_piecesof s (by omega)) ?_
  ((conv => whnf); repeat ((first | with_reducible refine BCase.tt ?_ | with_reducible refine BCase.ff ?_); (conv => whnf)))
  rw [← hP, ← hT]
  refine LoopC.mk Nat (fun k => [(5, texts P), (6, texts T), (7, rowD 7 ((row0 T.length).take k)), (8, pInt .i64 k)]) (fun _ => [(7, .tail tBool 1)]) [7] (fun k => k ≤ T.length + 1) (fun k => T.length + 1 - k) 0 (Nat.zero_le _) ?start ?round
  case start => exact ⟨[], rfl, rfl, ⟨.inl rfl, .inl rfl, ⟨rfl, rfl, by decide, rfl, rfl⟩, .inl rfl, trivial⟩, ⟨rfl, Nat.zero_lt_one⟩, trivial⟩
  case round =>
    intro k hk
    ((conv => whnf); repeat ((first | with_reducible refine BCase.tt ?_ | with_reducible refine BCase.ff ?_); (conv => whnf)))
    rw [List.length_map]
    refine BCase.d (fun h => ?_) (fun h => ?_)
    · have hln : (((row0 T.length).take k).map encB).length = k := by unfold row0; simp; omega
      have hnx : (row0 T.length).take (k + 1) = (row0 T.length).take k ++ [decide (k = 0)] := take_range _ _ _ (by omega)
      ((conv => whnf); repeat ((first | with_reducible refine BCase.tt ?_ | with_reducible refine BCase.ff ?_); (conv => whnf)))
      refine Need.mk (by show (_ + 1) * 1 ≤ _; omega) ?_
      ((conv => whnf); repeat ((first | with_reducible refine BCase.tt ?_ | with_reducible refine BCase.ff ?_); (conv => whnf)))
      refine Wr.i64 (by omega) (by omega) ?_
      ((conv => whnf); repeat ((first | with_reducible refine BCase.tt ?_ | with_reducible refine BCase.ff ?_); (conv => whnf)))
      refine ⟨k + 1, by omega, by omega, [(7, 29)], rfl, rfl, ⟨.inl rfl, .inl rfl, ⟨rfl, rfl, rfl, rfl, ?_⟩, PLe.int (by omega), trivial⟩, ⟨rfl, rfl, rfl⟩, trivial⟩
      rw [hnx, List.map_append]
      have : decide ((k : Int) = 0) = decide (k = 0) := by rw [Bool.eq_iff_iff]; simp
      rw [this]; rfl
    · have hk0 : (row0 T.length).take k = row0 T.length := List.take_of_length_le (by unfold row0; simp; omega)
      ((conv => whnf); repeat ((first | with_reducible refine BCase.tt ?_ | with_reducible refine BCase.ff ?_); (conv => whnf)))
      rw [hk0]
      refine LoopC.mk (Nat × List Bool) (fun q => [(5, texts P), (6, texts T), (7, rowD 7 q.2), (9, pInt .i64 q.1)]) (fun _ => [(7, .tail tBool 1)]) [7]
        (fun q => q.1 ≤ P.length ∧ openE false (P.take q.1) = false ∧ q.2.length = T.length + 1 ∧ LikeP.Row (pat p) T (partsE false (P.take q.1)).length (rowP q.2)) (fun q => P.length - q.1) (0, row0 T.length) ⟨Nat.zero_le _, rfl, by unfold row0; simp, row_start _ _⟩ ?start2 ?round2
      case start2 => exact ⟨[(7, 7)], rfl, rfl, ⟨.inl rfl, .inl rfl, ⟨rfl, rfl, rfl, rfl, rfl⟩, .inl rfl, trivial⟩, ⟨rfl, rfl, rfl⟩, trivial⟩
      case round2 =>
        rintro ⟨i, r⟩ ⟨hi, ho, hrl, hrow⟩
        dsimp only at hi ho hrl hrow ⊢
        ((conv => whnf); repeat ((first | with_reducible refine BCase.tt ?_ | with_reducible refine BCase.ff ?_); (conv => whnf)))
        rw [List.length_map]
        refine BCase.d (fun h => ?_) (fun h => ?_)
        · ((conv => whnf); repeat ((first | with_reducible refine BCase.tt ?_ | with_reducible refine BCase.ff ?_); (conv => whnf)))
          refine Idx.map (by omega) ?_
          ((conv => whnf); repeat ((first | with_reducible refine BCase.tt ?_ | with_reducible refine BCase.ff ?_); (conv => whnf)))
          refine Idx.map (by omega) ?_
          ((conv => whnf); repeat ((first | with_reducible refine BCase.tt ?_ | with_reducible refine BCase.ff ?_); (conv => whnf)))
          refine Idx.map (by omega) ?_
          ((conv => whnf); repeat ((first | with_reducible refine BCase.tt ?_ | with_reducible refine BCase.ff ?_); (conv => whnf)))
          refine Idx.map (by omega) ?_
          ((conv => whnf); repeat ((first | with_reducible refine BCase.tt ?_ | with_reducible refine BCase.ff ?_); (conv => whnf)))
          -- SPLIT
          refine BCase.d (fun hb => ?_) (fun hb => ?_)
          · obtain ⟨h5, h6, h7, h8⟩ := step_bs hopP ho (by omega) hb
            ((conv => whnf); repeat ((first | with_reducible refine BCase.tt ?_ | with_reducible refine BCase.ff ?_); (conv => whnf)))
            refine Wr.i64 (by omega) (by omega) ?_
            ((conv => whnf); repeat ((first | with_reducible refine BCase.tt ?_ | with_reducible refine BCase.ff ?_); (conv => whnf)))
            refine Idx.mapI (i + 1) (by omega) h5 ?_
            ((conv => whnf); repeat ((first | with_reducible refine BCase.tt ?_ | with_reducible refine BCase.ff ?_); (conv => whnf)))
            obtain ⟨any, hany⟩ : ∃ b : Bool, b = decide (P[i] = percent) := ⟨_, rfl⟩
            obtain ⟨one, hone⟩ : ∃ b : Bool, b = decide (P[i] = underscore) := ⟨_, rfl⟩
            obtain ⟨y, hy⟩ : ∃ y, y = P[i + 1] := ⟨_, rfl⟩
            have hf1 : any = false := by rw [hany, hb]; decide
            have hf2 : one = false := by rw [hone, hb]; decide
            obtain ⟨nx, hnx⟩ : ∃ f : Nat → Bool, f = fun k => if any = true then nxA r k else nxO r T one y k := ⟨_, rfl⟩
            refine LoopC.mk Nat (fun k => [(5, texts P), (6, texts T), (7, rowD 7 r), (9, pInt .i64 (i + 1 : Nat)), (10, pStr y), (11, pBool any), (12, pBool one), (13, rowD 13 (((List.range (T.length + 1)).map nx).take k)), (14, pInt .i64 k)]) (fun _ => [(7, .tail tBool 1), (13, .tail tBool 1)]) [7, 13] (fun k => k ≤ T.length + 1) (fun k => T.length + 1 - k) 0 (Nat.zero_le _) ?si1 ?ri1
            case si1 => exact ⟨[(7, 7)], rfl, rfl, ⟨.inl rfl, .inl rfl, ⟨rfl, rfl, rfl, rfl, rfl⟩, PLe.int (by omega), PLe.c (by rw [hy]), PLe.c (by rw [hany]; rfl), PLe.c (by rw [hone]; rfl), ⟨rfl, rfl, Nat.zero_lt_one, rfl, rfl⟩, .inl rfl, trivial⟩, ⟨rfl, rfl, rfl⟩, ⟨rfl, Nat.zero_lt_one⟩, trivial⟩
            case ri1 =>
              intro k hk
              ((conv => whnf); repeat ((first | with_reducible refine BCase.tt ?_ | with_reducible refine BCase.ff ?_); (conv => whnf)))
              rw [List.length_map]
              refine BCase.d (fun h2 => ?_) (fun h2 => ?_)
              · have hln : ((((List.range (T.length + 1)).map nx).take k).map encB).length = k := row_len (by omega)
                ((conv => whnf); repeat ((first | with_reducible refine BCase.tt ?_ | with_reducible refine BCase.ff ?_); (conv => whnf)))
                refine BCase.mk (fun ha => ?_) (fun ha => ?_)
                · have hnx : nx = nxA r := by rw [hnx]; funext j; rw [if_pos ha]
                  ((conv => whnf); repeat ((first | with_reducible refine BCase.tt ?_ | with_reducible refine BCase.ff ?_); (conv => whnf)))
                  refine Idx.map (by omega) ?_
                  ((conv => whnf); repeat ((first | with_reducible refine BCase.tt ?_ | with_reducible refine BCase.ff ?_); (conv => whnf)))
                  refine BCase.mk (fun hr => ?_) (fun hr => ?_)
                  · have hv : nx k = true := by rw [hnx, nxA_iff]; exact ⟨k, Nat.le_refl _, by unfold rowP; rw [List.getElem?_eq_getElem (by omega), hr]⟩
                    ((conv => whnf); repeat ((first | with_reducible refine BCase.tt ?_ | with_reducible refine BCase.ff ?_); (conv => whnf)))
                    refine Need.mk (by show (_ + 1) * 1 ≤ _; rw [hln]; omega) ?_
                    ((conv => whnf); repeat ((first | with_reducible refine BCase.tt ?_ | with_reducible refine BCase.ff ?_); (conv => whnf)))
                    refine Wr.i64 (by omega) (by omega) ?_
                    ((conv => whnf); repeat ((first | with_reducible refine BCase.tt ?_ | with_reducible refine BCase.ff ?_); (conv => whnf)))
                    exact ⟨k + 1, by omega, by omega, [(7, 7), (13, 83)], rfl, rfl, ⟨.inl rfl, .inl rfl, ⟨rfl, rfl, rfl, rfl, rfl⟩, .inl rfl, .inl rfl, .inl rfl, .inl rfl, ⟨rfl, rfl, rfl, rfl, row_more (by omega) (hv)⟩, PLe.int (by omega), trivial⟩, ⟨rfl, rfl, rfl⟩, ⟨rfl, rfl, rfl⟩, trivial⟩
                  · ((conv => whnf); repeat ((first | with_reducible refine BCase.tt ?_ | with_reducible refine BCase.ff ?_); (conv => whnf)))
                    refine BCase.d (fun h3 => ?_) (fun h3 => ?_)
                    · obtain ⟨j, rfl⟩ : ∃ j, k = j + 1 := ⟨k - 1, by omega⟩
                      have hv : nx (j + 1) = nx j := by rw [hnx, nxA_succ r j (by omega), hr]; rfl
                      ((conv => whnf); repeat ((first | with_reducible refine BCase.tt ?_ | with_reducible refine BCase.ff ?_); (conv => whnf)))
                      refine Wr.i64 (by omega) (by omega) ?_
                      ((conv => whnf); repeat ((first | with_reducible refine BCase.tt ?_ | with_reducible refine BCase.ff ?_); (conv => whnf)))
                      refine Idx.mapI j (by omega) (by simp; omega) ?_
                      rw [show (((List.range (T.length + 1)).map nx).take (j + 1))[j]'(by simp; omega) = nx j by simp]
                      ((conv => whnf); repeat ((first | with_reducible refine BCase.tt ?_ | with_reducible refine BCase.ff ?_); (conv => whnf)))
                      refine Need.mk (by show (_ + 1) * 1 ≤ _; rw [hln]; omega) ?_
                      ((conv => whnf); repeat ((first | with_reducible refine BCase.tt ?_ | with_reducible refine BCase.ff ?_); (conv => whnf)))
                      refine Wr.i64 (by omega) (by omega) ?_
                      ((conv => whnf); repeat ((first | with_reducible refine BCase.tt ?_ | with_reducible refine BCase.ff ?_); (conv => whnf)))
                      exact ⟨j + 1 + 1, by omega, by omega, [(7, 7), (13, 83)], rfl, rfl, ⟨.inl rfl, .inl rfl, ⟨rfl, rfl, rfl, rfl, rfl⟩, .inl rfl, .inl rfl, .inl rfl, .inl rfl, ⟨rfl, rfl, rfl, rfl, row_more (by omega) (hv)⟩, PLe.int (by omega), trivial⟩, ⟨rfl, rfl, rfl⟩, ⟨rfl, rfl, rfl⟩, trivial⟩
                    · obtain rfl : k = 0 := by omega
                      have hv : nx 0 = false := by rw [hnx, nxA_zero r (by omega), hr]
                      ((conv => whnf); repeat ((first | with_reducible refine BCase.tt ?_ | with_reducible refine BCase.ff ?_); (conv => whnf)))
                      refine Need.mk (by show (_ + 1) * 1 ≤ _; rw [hln]; omega) ?_
                      ((conv => whnf); repeat ((first | with_reducible refine BCase.tt ?_ | with_reducible refine BCase.ff ?_); (conv => whnf)))
                      refine Wr.i64 (by omega) (by omega) ?_
                      ((conv => whnf); repeat ((first | with_reducible refine BCase.tt ?_ | with_reducible refine BCase.ff ?_); (conv => whnf)))
                      exact ⟨0 + 1, by omega, by omega, [(7, 7), (13, 83)], rfl, rfl, ⟨.inl rfl, .inl rfl, ⟨rfl, rfl, rfl, rfl, rfl⟩, .inl rfl, .inl rfl, .inl rfl, .inl rfl, ⟨rfl, rfl, rfl, rfl, row_more (by omega) (hv)⟩, PLe.int (by omega), trivial⟩, ⟨rfl, rfl, rfl⟩, ⟨rfl, rfl, rfl⟩, trivial⟩
                · have hnx : nx = nxO r T one y := by rw [hnx]; funext j; rw [if_neg (by rw [ha]; decide)]
                  ((conv => whnf); repeat ((first | with_reducible refine BCase.tt ?_ | with_reducible refine BCase.ff ?_); (conv => whnf)))
                  refine BCase.d (fun h3 => ?_) (fun h3 => ?_)
                  · obtain ⟨j, rfl⟩ : ∃ j, k = j + 1 := ⟨k - 1, by omega⟩
                    have hq : nx (j + 1) = (r.getD j false && (one || decide (T.getD j ByteArray.empty = y))) := by rw [hnx]; rfl
                    rw [List.getD_eq_getElem?_getD, List.getD_eq_getElem?_getD, List.getElem?_eq_getElem (by omega), List.getElem?_eq_getElem (by omega)] at hq
                    ((conv => whnf); repeat ((first | with_reducible refine BCase.tt ?_ | with_reducible refine BCase.ff ?_); (conv => whnf)))
                    refine Wr.i64 (by omega) (by omega) ?_
                    ((conv => whnf); repeat ((first | with_reducible refine BCase.tt ?_ | with_reducible refine BCase.ff ?_); (conv => whnf)))
                    refine Idx.mapI j (by omega) (by omega) ?_
                    ((conv => whnf); repeat ((first | with_reducible refine BCase.tt ?_ | with_reducible refine BCase.ff ?_); (conv => whnf)))
                    refine BCase.mk (fun hr => ?_) (fun hr => ?_)
                    · ((conv => whnf); repeat ((first | with_reducible refine BCase.tt ?_ | with_reducible refine BCase.ff ?_); (conv => whnf)))
                      refine BCase.mk (fun h1 => ?_) (fun h1 => ?_)
                      · have hv : nx (j + 1) = true := by rw [hq, Option.getD_some, hr, h1]; rfl
                        ((conv => whnf); repeat ((first | with_reducible refine BCase.tt ?_ | with_reducible refine BCase.ff ?_); (conv => whnf)))
                        refine Need.mk (by show (_ + 1) * 1 ≤ _; rw [hln]; omega) ?_
                        ((conv => whnf); repeat ((first | with_reducible refine BCase.tt ?_ | with_reducible refine BCase.ff ?_); (conv => whnf)))
                        refine Wr.i64 (by omega) (by omega) ?_
                        ((conv => whnf); repeat ((first | with_reducible refine BCase.tt ?_ | with_reducible refine BCase.ff ?_); (conv => whnf)))
                        exact ⟨j + 1 + 1, by omega, by omega, [(7, 7), (13, 107)], rfl, rfl, ⟨.inl rfl, .inl rfl, ⟨rfl, rfl, rfl, rfl, rfl⟩, .inl rfl, .inl rfl, .inl rfl, .inl rfl, ⟨rfl, rfl, rfl, rfl, row_more (by omega) (hv)⟩, PLe.int (by omega), trivial⟩, ⟨rfl, rfl, rfl⟩, ⟨rfl, rfl, rfl⟩, trivial⟩
                      · have hv : nx (j + 1) = decide (T[j] = y) := by rw [hq, Option.getD_some, Option.getD_some, hr, h1]; rfl
                        ((conv => whnf); repeat ((first | with_reducible refine BCase.tt ?_ | with_reducible refine BCase.ff ?_); (conv => whnf)))
                        refine Wr.i64 (by omega) (by omega) ?_
                        ((conv => whnf); repeat ((first | with_reducible refine BCase.tt ?_ | with_reducible refine BCase.ff ?_); (conv => whnf)))
                        refine Idx.mapI j (by omega) (by omega) ?_
                        ((conv => whnf); repeat ((first | with_reducible refine BCase.tt ?_ | with_reducible refine BCase.ff ?_); (conv => whnf)))
                        refine Need.mk (by show (_ + 1) * 1 ≤ _; rw [hln]; omega) ?_
                        ((conv => whnf); repeat ((first | with_reducible refine BCase.tt ?_ | with_reducible refine BCase.ff ?_); (conv => whnf)))
                        refine Wr.i64 (by omega) (by omega) ?_
                        ((conv => whnf); repeat ((first | with_reducible refine BCase.tt ?_ | with_reducible refine BCase.ff ?_); (conv => whnf)))
                        exact ⟨j + 1 + 1, by omega, by omega, [(7, 7), (13, 107)], rfl, rfl, ⟨.inl rfl, .inl rfl, ⟨rfl, rfl, rfl, rfl, rfl⟩, .inl rfl, .inl rfl, .inl rfl, .inl rfl, ⟨rfl, rfl, rfl, rfl, row_more (by omega) (hv)⟩, PLe.int (by omega), trivial⟩, ⟨rfl, rfl, rfl⟩, ⟨rfl, rfl, rfl⟩, trivial⟩
                    · have hv : nx (j + 1) = false := by rw [hq, Option.getD_some, hr]; rfl
                      ((conv => whnf); repeat ((first | with_reducible refine BCase.tt ?_ | with_reducible refine BCase.ff ?_); (conv => whnf)))
                      refine Need.mk (by show (_ + 1) * 1 ≤ _; rw [hln]; omega) ?_
                      ((conv => whnf); repeat ((first | with_reducible refine BCase.tt ?_ | with_reducible refine BCase.ff ?_); (conv => whnf)))
                      refine Wr.i64 (by omega) (by omega) ?_
                      ((conv => whnf); repeat ((first | with_reducible refine BCase.tt ?_ | with_reducible refine BCase.ff ?_); (conv => whnf)))
                      exact ⟨j + 1 + 1, by omega, by omega, [(7, 7), (13, 107)], rfl, rfl, ⟨.inl rfl, .inl rfl, ⟨rfl, rfl, rfl, rfl, rfl⟩, .inl rfl, .inl rfl, .inl rfl, .inl rfl, ⟨rfl, rfl, rfl, rfl, row_more (by omega) (hv)⟩, PLe.int (by omega), trivial⟩, ⟨rfl, rfl, rfl⟩, ⟨rfl, rfl, rfl⟩, trivial⟩
                  · obtain rfl : k = 0 := by omega
                    have hv : nx 0 = false := by rw [hnx]; rfl
                    ((conv => whnf); repeat ((first | with_reducible refine BCase.tt ?_ | with_reducible refine BCase.ff ?_); (conv => whnf)))
                    refine Need.mk (by show (_ + 1) * 1 ≤ _; rw [hln]; omega) ?_
                    ((conv => whnf); repeat ((first | with_reducible refine BCase.tt ?_ | with_reducible refine BCase.ff ?_); (conv => whnf)))
                    refine Wr.i64 (by omega) (by omega) ?_
                    ((conv => whnf); repeat ((first | with_reducible refine BCase.tt ?_ | with_reducible refine BCase.ff ?_); (conv => whnf)))
                    exact ⟨0 + 1, by omega, by omega, [(7, 7), (13, 107)], rfl, rfl, ⟨.inl rfl, .inl rfl, ⟨rfl, rfl, rfl, rfl, rfl⟩, .inl rfl, .inl rfl, .inl rfl, .inl rfl, ⟨rfl, rfl, rfl, rfl, row_more (by omega) (hv)⟩, PLe.int (by omega), trivial⟩, ⟨rfl, rfl, rfl⟩, ⟨rfl, rfl, rfl⟩, trivial⟩
              · have hfull : ((List.range (T.length + 1)).map nx).take k = (List.range (T.length + 1)).map nx := List.take_of_length_le (by simp; omega)
                ((conv => whnf); repeat ((first | with_reducible refine BCase.tt ?_ | with_reducible refine BCase.ff ?_); (conv => whnf)))
                rw [hfull]
                refine Wr.i64 (by omega) (by omega) ?_
                ((conv => whnf); repeat ((first | with_reducible refine BCase.tt ?_ | with_reducible refine BCase.ff ?_); (conv => whnf)))
                exact ⟨((i + 1 : Nat) + 1, (List.range (T.length + 1)).map nx), ⟨by show i + 1 + 1 ≤ _; omega, h7, by simp, by show LikeP.Row _ _ _ _; rw [h8, hnx, hf1, hf2]; exact row_one hrow (by rw [hPp]; exact h6) false y (by rw [hy]; exact stands_esc _) (by show (0 : Int) ≠ 37; decide)⟩, by omega, [(7, 13)], rfl, rfl, ⟨.inl rfl, .inl rfl, ⟨rfl, rfl, rfl, rfl, rfl⟩, PLe.int (by show _ = _; omega), trivial⟩, ⟨rfl, rfl, rfl⟩, trivial⟩
          · obtain ⟨any, hany⟩ : ∃ b : Bool, b = decide (P[i] = percent) := ⟨_, rfl⟩
            obtain ⟨one, hone⟩ : ∃ b : Bool, b = decide (P[i] = underscore) := ⟨_, rfl⟩
            obtain ⟨y, hy⟩ : ∃ y, y = P[i] := ⟨_, rfl⟩
            have hstep : ∀ nx : Nat → Bool, (nx = fun k => if any = true then nxA r k else nxO r T one y k) → openE false (P.take (i + 1)) = false ∧ LikeP.Row (pat p) T (partsE false (P.take (i + 1))).length (rowP ((List.range (T.length + 1)).map nx)) := by
              intro nx hnx
              by_cases c1 : P[i] = percent
              · obtain ⟨h6, h7, h8⟩ := step_one ho (by omega) hb (37, ⟨#[]⟩) (part_any c1)
                refine ⟨h7, ?_⟩
                rw [h8, hnx, show any = true by rw [hany]; exact decide_eq_true c1]
                exact row_any hrow (by rw [hPp]; exact h6) rfl
              · rw [hnx, show any = false by rw [hany]; exact decide_eq_false c1]
                by_cases c2 : P[i] = underscore
                · obtain ⟨h6, h7, h8⟩ := step_one ho (by omega) hb (95, ⟨#[]⟩) (part_one c2)
                  refine ⟨h7, ?_⟩
                  rw [h8, show one = true by rw [hone]; exact decide_eq_true c2]
                  exact row_one hrow (by rw [hPp]; exact h6) true y (stands_under _ _) (by show (95 : Int) ≠ 37; decide)
                · obtain ⟨h6, h7, h8⟩ := step_one ho (by omega) hb (0, P[i]) (part_self hb c1 c2)
                  refine ⟨h7, ?_⟩
                  rw [h8, show one = false by rw [hone]; exact decide_eq_false c2]
                  exact row_one hrow (by rw [hPp]; exact h6) false y (by rw [hy]; exact stands_esc _) (by show (0 : Int) ≠ 37; decide)
            ((conv => whnf); repeat ((first | with_reducible refine BCase.tt ?_ | with_reducible refine BCase.ff ?_); (conv => whnf)))
            obtain ⟨nx, hnx⟩ : ∃ f : Nat → Bool, f = fun k => if any = true then nxA r k else nxO r T one y k := ⟨_, rfl⟩
            refine LoopC.mk Nat (fun k => [(5, texts P), (6, texts T), (7, rowD 7 r), (9, pInt .i64 i), (10, pStr y), (11, pBool any), (12, pBool one), (13, rowD 13 (((List.range (T.length + 1)).map nx).take k)), (14, pInt .i64 k)]) (fun _ => [(7, .tail tBool 1), (13, .tail tBool 1)]) [7, 13] (fun k => k ≤ T.length + 1) (fun k => T.length + 1 - k) 0 (Nat.zero_le _) ?si2 ?ri2
            case si2 => exact ⟨[(7, 7)], rfl, rfl, ⟨.inl rfl, .inl rfl, ⟨rfl, rfl, rfl, rfl, rfl⟩, .inl rfl, PLe.c (by rw [hy]), PLe.c (by rw [hany]; rfl), PLe.c (by rw [hone]; rfl), ⟨rfl, rfl, Nat.zero_lt_one, rfl, rfl⟩, .inl rfl, trivial⟩, ⟨rfl, rfl, rfl⟩, ⟨rfl, Nat.zero_lt_one⟩, trivial⟩
            case ri2 =>
              intro k hk
              ((conv => whnf); repeat ((first | with_reducible refine BCase.tt ?_ | with_reducible refine BCase.ff ?_); (conv => whnf)))
              rw [List.length_map]
              refine BCase.d (fun h2 => ?_) (fun h2 => ?_)
              · have hln : ((((List.range (T.length + 1)).map nx).take k).map encB).length = k := row_len (by omega)
                ((conv => whnf); repeat ((first | with_reducible refine BCase.tt ?_ | with_reducible refine BCase.ff ?_); (conv => whnf)))
                refine BCase.mk (fun ha => ?_) (fun ha => ?_)
                · have hnx : nx = nxA r := by rw [hnx]; funext j; rw [if_pos ha]
                  ((conv => whnf); repeat ((first | with_reducible refine BCase.tt ?_ | with_reducible refine BCase.ff ?_); (conv => whnf)))
                  refine Idx.map (by omega) ?_
                  ((conv => whnf); repeat ((first | with_reducible refine BCase.tt ?_ | with_reducible refine BCase.ff ?_); (conv => whnf)))
                  refine BCase.mk (fun hr => ?_) (fun hr => ?_)
                  · have hv : nx k = true := by rw [hnx, nxA_iff]; exact ⟨k, Nat.le_refl _, by unfold rowP; rw [List.getElem?_eq_getElem (by omega), hr]⟩
                    ((conv => whnf); repeat ((first | with_reducible refine BCase.tt ?_ | with_reducible refine BCase.ff ?_); (conv => whnf)))
                    refine Need.mk (by show (_ + 1) * 1 ≤ _; rw [hln]; omega) ?_
                    ((conv => whnf); repeat ((first | with_reducible refine BCase.tt ?_ | with_reducible refine BCase.ff ?_); (conv => whnf)))
                    refine Wr.i64 (by omega) (by omega) ?_
                    ((conv => whnf); repeat ((first | with_reducible refine BCase.tt ?_ | with_reducible refine BCase.ff ?_); (conv => whnf)))
                    exact ⟨k + 1, by omega, by omega, [(7, 7), (13, 83)], rfl, rfl, ⟨.inl rfl, .inl rfl, ⟨rfl, rfl, rfl, rfl, rfl⟩, .inl rfl, .inl rfl, .inl rfl, .inl rfl, ⟨rfl, rfl, rfl, rfl, row_more (by omega) (hv)⟩, PLe.int (by omega), trivial⟩, ⟨rfl, rfl, rfl⟩, ⟨rfl, rfl, rfl⟩, trivial⟩
                  · ((conv => whnf); repeat ((first | with_reducible refine BCase.tt ?_ | with_reducible refine BCase.ff ?_); (conv => whnf)))
                    refine BCase.d (fun h3 => ?_) (fun h3 => ?_)
                    · obtain ⟨j, rfl⟩ : ∃ j, k = j + 1 := ⟨k - 1, by omega⟩
                      have hv : nx (j + 1) = nx j := by rw [hnx, nxA_succ r j (by omega), hr]; rfl
                      ((conv => whnf); repeat ((first | with_reducible refine BCase.tt ?_ | with_reducible refine BCase.ff ?_); (conv => whnf)))
                      refine Wr.i64 (by omega) (by omega) ?_
                      ((conv => whnf); repeat ((first | with_reducible refine BCase.tt ?_ | with_reducible refine BCase.ff ?_); (conv => whnf)))
                      refine Idx.mapI j (by omega) (by simp; omega) ?_
                      rw [show (((List.range (T.length + 1)).map nx).take (j + 1))[j]'(by simp; omega) = nx j by simp]
                      ((conv => whnf); repeat ((first | with_reducible refine BCase.tt ?_ | with_reducible refine BCase.ff ?_); (conv => whnf)))
                      refine Need.mk (by show (_ + 1) * 1 ≤ _; rw [hln]; omega) ?_
                      ((conv => whnf); repeat ((first | with_reducible refine BCase.tt ?_ | with_reducible refine BCase.ff ?_); (conv => whnf)))
                      refine Wr.i64 (by omega) (by omega) ?_
                      ((conv => whnf); repeat ((first | with_reducible refine BCase.tt ?_ | with_reducible refine BCase.ff ?_); (conv => whnf)))
                      exact ⟨j + 1 + 1, by omega, by omega, [(7, 7), (13, 83)], rfl, rfl, ⟨.inl rfl, .inl rfl, ⟨rfl, rfl, rfl, rfl, rfl⟩, .inl rfl, .inl rfl, .inl rfl, .inl rfl, ⟨rfl, rfl, rfl, rfl, row_more (by omega) (hv)⟩, PLe.int (by omega), trivial⟩, ⟨rfl, rfl, rfl⟩, ⟨rfl, rfl, rfl⟩, trivial⟩
                    · obtain rfl : k = 0 := by omega
                      have hv : nx 0 = false := by rw [hnx, nxA_zero r (by omega), hr]
                      ((conv => whnf); repeat ((first | with_reducible refine BCase.tt ?_ | with_reducible refine BCase.ff ?_); (conv => whnf)))
                      refine Need.mk (by show (_ + 1) * 1 ≤ _; rw [hln]; omega) ?_
                      ((conv => whnf); repeat ((first | with_reducible refine BCase.tt ?_ | with_reducible refine BCase.ff ?_); (conv => whnf)))
                      refine Wr.i64 (by omega) (by omega) ?_
                      ((conv => whnf); repeat ((first | with_reducible refine BCase.tt ?_ | with_reducible refine BCase.ff ?_); (conv => whnf)))
                      exact ⟨0 + 1, by omega, by omega, [(7, 7), (13, 83)], rfl, rfl, ⟨.inl rfl, .inl rfl, ⟨rfl, rfl, rfl, rfl, rfl⟩, .inl rfl, .inl rfl, .inl rfl, .inl rfl, ⟨rfl, rfl, rfl, rfl, row_more (by omega) (hv)⟩, PLe.int (by omega), trivial⟩, ⟨rfl, rfl, rfl⟩, ⟨rfl, rfl, rfl⟩, trivial⟩
                · have hnx : nx = nxO r T one y := by rw [hnx]; funext j; rw [if_neg (by rw [ha]; decide)]
                  ((conv => whnf); repeat ((first | with_reducible refine BCase.tt ?_ | with_reducible refine BCase.ff ?_); (conv => whnf)))
                  refine BCase.d (fun h3 => ?_) (fun h3 => ?_)
                  · obtain ⟨j, rfl⟩ : ∃ j, k = j + 1 := ⟨k - 1, by omega⟩
                    have hq : nx (j + 1) = (r.getD j false && (one || decide (T.getD j ByteArray.empty = y))) := by rw [hnx]; rfl
                    rw [List.getD_eq_getElem?_getD, List.getD_eq_getElem?_getD, List.getElem?_eq_getElem (by omega), List.getElem?_eq_getElem (by omega)] at hq
                    ((conv => whnf); repeat ((first | with_reducible refine BCase.tt ?_ | with_reducible refine BCase.ff ?_); (conv => whnf)))
                    refine Wr.i64 (by omega) (by omega) ?_
                    ((conv => whnf); repeat ((first | with_reducible refine BCase.tt ?_ | with_reducible refine BCase.ff ?_); (conv => whnf)))
                    refine Idx.mapI j (by omega) (by omega) ?_
                    ((conv => whnf); repeat ((first | with_reducible refine BCase.tt ?_ | with_reducible refine BCase.ff ?_); (conv => whnf)))
                    refine BCase.mk (fun hr => ?_) (fun hr => ?_)
                    · ((conv => whnf); repeat ((first | with_reducible refine BCase.tt ?_ | with_reducible refine BCase.ff ?_); (conv => whnf)))
                      refine BCase.mk (fun h1 => ?_) (fun h1 => ?_)
                      · have hv : nx (j + 1) = true := by rw [hq, Option.getD_some, hr, h1]; rfl
                        ((conv => whnf); repeat ((first | with_reducible refine BCase.tt ?_ | with_reducible refine BCase.ff ?_); (conv => whnf)))
                        refine Need.mk (by show (_ + 1) * 1 ≤ _; rw [hln]; omega) ?_
                        ((conv => whnf); repeat ((first | with_reducible refine BCase.tt ?_ | with_reducible refine BCase.ff ?_); (conv => whnf)))
                        refine Wr.i64 (by omega) (by omega) ?_
                        ((conv => whnf); repeat ((first | with_reducible refine BCase.tt ?_ | with_reducible refine BCase.ff ?_); (conv => whnf)))
                        exact ⟨j + 1 + 1, by omega, by omega, [(7, 7), (13, 107)], rfl, rfl, ⟨.inl rfl, .inl rfl, ⟨rfl, rfl, rfl, rfl, rfl⟩, .inl rfl, .inl rfl, .inl rfl, .inl rfl, ⟨rfl, rfl, rfl, rfl, row_more (by omega) (hv)⟩, PLe.int (by omega), trivial⟩, ⟨rfl, rfl, rfl⟩, ⟨rfl, rfl, rfl⟩, trivial⟩
                      · have hv : nx (j + 1) = decide (T[j] = y) := by rw [hq, Option.getD_some, Option.getD_some, hr, h1]; rfl
                        ((conv => whnf); repeat ((first | with_reducible refine BCase.tt ?_ | with_reducible refine BCase.ff ?_); (conv => whnf)))
                        refine Wr.i64 (by omega) (by omega) ?_
                        ((conv => whnf); repeat ((first | with_reducible refine BCase.tt ?_ | with_reducible refine BCase.ff ?_); (conv => whnf)))
                        refine Idx.mapI j (by omega) (by omega) ?_
                        ((conv => whnf); repeat ((first | with_reducible refine BCase.tt ?_ | with_reducible refine BCase.ff ?_); (conv => whnf)))
                        refine Need.mk (by show (_ + 1) * 1 ≤ _; rw [hln]; omega) ?_
                        ((conv => whnf); repeat ((first | with_reducible refine BCase.tt ?_ | with_reducible refine BCase.ff ?_); (conv => whnf)))
                        refine Wr.i64 (by omega) (by omega) ?_
                        ((conv => whnf); repeat ((first | with_reducible refine BCase.tt ?_ | with_reducible refine BCase.ff ?_); (conv => whnf)))
                        exact ⟨j + 1 + 1, by omega, by omega, [(7, 7), (13, 107)], rfl, rfl, ⟨.inl rfl, .inl rfl, ⟨rfl, rfl, rfl, rfl, rfl⟩, .inl rfl, .inl rfl, .inl rfl, .inl rfl, ⟨rfl, rfl, rfl, rfl, row_more (by omega) (hv)⟩, PLe.int (by omega), trivial⟩, ⟨rfl, rfl, rfl⟩, ⟨rfl, rfl, rfl⟩, trivial⟩
                    · have hv : nx (j + 1) = false := by rw [hq, Option.getD_some, hr]; rfl
                      ((conv => whnf); repeat ((first | with_reducible refine BCase.tt ?_ | with_reducible refine BCase.ff ?_); (conv => whnf)))
                      refine Need.mk (by show (_ + 1) * 1 ≤ _; rw [hln]; omega) ?_
                      ((conv => whnf); repeat ((first | with_reducible refine BCase.tt ?_ | with_reducible refine BCase.ff ?_); (conv => whnf)))
                      refine Wr.i64 (by omega) (by omega) ?_
                      ((conv => whnf); repeat ((first | with_reducible refine BCase.tt ?_ | with_reducible refine BCase.ff ?_); (conv => whnf)))
                      exact ⟨j + 1 + 1, by omega, by omega, [(7, 7), (13, 107)], rfl, rfl, ⟨.inl rfl, .inl rfl, ⟨rfl, rfl, rfl, rfl, rfl⟩, .inl rfl, .inl rfl, .inl rfl, .inl rfl, ⟨rfl, rfl, rfl, rfl, row_more (by omega) (hv)⟩, PLe.int (by omega), trivial⟩, ⟨rfl, rfl, rfl⟩, ⟨rfl, rfl, rfl⟩, trivial⟩
                  · obtain rfl : k = 0 := by omega
                    have hv : nx 0 = false := by rw [hnx]; rfl
                    ((conv => whnf); repeat ((first | with_reducible refine BCase.tt ?_ | with_reducible refine BCase.ff ?_); (conv => whnf)))
                    refine Need.mk (by show (_ + 1) * 1 ≤ _; rw [hln]; omega) ?_
                    ((conv => whnf); repeat ((first | with_reducible refine BCase.tt ?_ | with_reducible refine BCase.ff ?_); (conv => whnf)))
                    refine Wr.i64 (by omega) (by omega) ?_
                    ((conv => whnf); repeat ((first | with_reducible refine BCase.tt ?_ | with_reducible refine BCase.ff ?_); (conv => whnf)))
                    exact ⟨0 + 1, by omega, by omega, [(7, 7), (13, 107)], rfl, rfl, ⟨.inl rfl, .inl rfl, ⟨rfl, rfl, rfl, rfl, rfl⟩, .inl rfl, .inl rfl, .inl rfl, .inl rfl, ⟨rfl, rfl, rfl, rfl, row_more (by omega) (hv)⟩, PLe.int (by omega), trivial⟩, ⟨rfl, rfl, rfl⟩, ⟨rfl, rfl, rfl⟩, trivial⟩
              · have hfull : ((List.range (T.length + 1)).map nx).take k = (List.range (T.length + 1)).map nx := List.take_of_length_le (by simp; omega)
                ((conv => whnf); repeat ((first | with_reducible refine BCase.tt ?_ | with_reducible refine BCase.ff ?_); (conv => whnf)))
                rw [hfull]
                refine Wr.i64 (by omega) (by omega) ?_
                ((conv => whnf); repeat ((first | with_reducible refine BCase.tt ?_ | with_reducible refine BCase.ff ?_); (conv => whnf)))
                exact ⟨(i + 1, (List.range (T.length + 1)).map nx), ⟨by show i + 1 ≤ _; omega, (hstep nx hnx).1, by simp, (hstep nx hnx).2⟩, by omega, [(7, 13)], rfl, rfl, ⟨.inl rfl, .inl rfl, ⟨rfl, rfl, rfl, rfl, rfl⟩, PLe.int (by show _ = _; omega), trivial⟩, ⟨rfl, rfl, rfl⟩, trivial⟩
        · have hie : i = P.length := by omega
          ((conv => whnf); repeat ((first | with_reducible refine BCase.tt ?_ | with_reducible refine BCase.ff ?_); (conv => whnf)))
          rw [List.length_map]
          refine Idx.map (by omega) ?_
          ((conv => whnf); repeat ((first | with_reducible refine BCase.tt ?_ | with_reducible refine BCase.ff ?_); (conv => whnf)))
          refine Ret.mk ?_
          subst hie
          rw [List.take_of_length_le (Nat.le_refl _), ← hPp] at hrow
          have hd := hrow.done
          have hg : matB p s = r[T.length] := hfin (by
            rw [← hT, hd]
            unfold rowP
            rw [List.getElem?_eq_getElem (by omega)]
            simp)
          rw [hg]
end Go.Proofs.YthogcgnhhcbkkaaDoor.Pm
