/- Parts of the proof, one behind the other: PmMatchOf PxNodeR PxNodeR2 PxSplit PxValue PxSame PxFoldE PxFold PxFold2 PxFold3 PxSplit2 PmNil PxPush. Conditions: none beyond what each theorem says. -/
import Derived.Test.YtggdfnjomonbkaaGreatDoorZ5
section
namespace Go.Proofs.YtggdfnjomonbkaaGreatDoor.Pm
open Go.RowKit LikeP
set_option linter.unusedVariables false
set_option linter.unusedSimpArgs false
def encB (b : Bool) : List C := [.v (.bool b)]
abbrev tBool : Nat := 4
abbrev rowD (k : Nat) (r : List Bool) : PV := .d (.app k tBool 1 (r.map encB))
theorem row_more {f : Nat → Bool} {m k : Nat} (hk : k < m) {b : Bool} (hb : f k = b) : (((List.range m).map f).take k).map encB ++ [[.v (.bool b)]] = (((List.range m).map f).take (k + 1)).map encB := by
  rw [take_range f m k hk, List.map_append, hb]; rfl
theorem row_len {f : Nat → Bool} {m k : Nat} (hk : k ≤ m) : ((((List.range m).map f).take k).map encB).length = k := by simp; omega
set_option maxRecDepth 100000 in
theorem p_matchof (p s : ByteArray) (hp : patE p = 0) (hs : s.size ≤ 16) : Pure Tryz.prog 73 [pStr p, pStr s] (pBool (matB p s)) := by
  obtain ⟨hpz, hop⟩ := patE_ok hp
  have hPl := pcs_length p
  have hTl := pcs_length s
  have hE : matE p s = 0 := by unfold matE; rw [if_neg (by omega), if_neg (by omega)]
  have hfin : ∀ {b : Bool}, (b = true ↔ glob (pat p) (pcs s)) → matB p s = b := fun {b} h => by
    rw [Bool.eq_iff_iff, matB_iff, h]; simp [hE]
  obtain ⟨P, hP⟩ : ∃ P, P = pcs p := ⟨_, rfl⟩
  obtain ⟨T, hT⟩ : ∃ T, T = pcs s := ⟨_, rfl⟩
  have hPL : P.length ≤ 32 := by rw [hP]; omega
  have hTL : T.length ≤ 16 := by rw [hT]; omega
  have hPp : pat p = partsE false P := by rw [hP]; rfl
  have hopP : openE false P = false := by rw [hP]; exact hop
  clear hPl hTl
  refine pure_of Tryz.func73 (by rfl) rfl (by kernel_rfl) (by rfl) ?_
  ((conv => whnf); repeat ((with_reducible first | refine BCase.tt ?_ | refine BCase.ff ?_); (conv => whnf)))
  refine CallP.pure _ rfl _ (p_piecesof p (by omega)) ?_
  ((conv => whnf); repeat ((with_reducible first | refine BCase.tt ?_ | refine BCase.ff ?_); (conv => whnf)))
  refine CallP.pure _ rfl _ (p_piecesof s (by omega)) ?_
  ((conv => whnf); repeat ((with_reducible first | refine BCase.tt ?_ | refine BCase.ff ?_); (conv => whnf)))
  rw [← hP, ← hT]
  refine LoopC.mk Nat (fun k => [(5, texts P), (6, texts T), (7, rowD 7 ((row0 T.length).take k)), (8, pInt .i64 k)]) (fun _ => [(7, .tail tBool 1)]) [7] (fun k => k ≤ T.length + 1) (fun k => T.length + 1 - k) 0 (Nat.zero_le _) ?start ?round
  case start => exact ⟨[], rfl, rfl, ⟨.inl rfl, .inl rfl, ⟨rfl, rfl, by decide, rfl, rfl⟩, .inl rfl, trivial⟩, ⟨rfl, Nat.zero_lt_one⟩, trivial⟩
  case round =>
    intro k hk
    ((conv => whnf); repeat ((with_reducible first | refine BCase.tt ?_ | refine BCase.ff ?_); (conv => whnf)))
    rw [List.length_map]
    refine BCase.d (fun h => ?_) (fun h => ?_)
    · have hln : (((row0 T.length).take k).map encB).length = k := by unfold row0; simp; omega
      have hnx : (row0 T.length).take (k + 1) = (row0 T.length).take k ++ [decide (k = 0)] := take_range _ _ _ (by omega)
      ((conv => whnf); repeat ((with_reducible first | refine BCase.tt ?_ | refine BCase.ff ?_); (conv => whnf)))
      refine Need.mk (by show (_ + 1) * 1 ≤ _; omega) ?_
      ((conv => whnf); repeat ((with_reducible first | refine BCase.tt ?_ | refine BCase.ff ?_); (conv => whnf)))
      refine Wr.i64 (by omega) (by omega) ?_
      ((conv => whnf); repeat ((with_reducible first | refine BCase.tt ?_ | refine BCase.ff ?_); (conv => whnf)))
      refine ⟨k + 1, by omega, by omega, [(7, 29)], rfl, rfl, ⟨.inl rfl, .inl rfl, ⟨rfl, rfl, rfl, rfl, ?_⟩, PLe.int (by omega), trivial⟩, ⟨rfl, rfl, rfl⟩, trivial⟩
      rw [hnx, List.map_append]
      have : decide ((k : Int) = 0) = decide (k = 0) := by rw [Bool.eq_iff_iff]; simp
      rw [this]; rfl
    · have hk0 : (row0 T.length).take k = row0 T.length := List.take_of_length_le (by unfold row0; simp; omega)
      ((conv => whnf); repeat ((with_reducible first | refine BCase.tt ?_ | refine BCase.ff ?_); (conv => whnf)))
      rw [hk0]
      refine LoopC.mk (Nat × List Bool) (fun q => [(5, texts P), (6, texts T), (7, rowD 7 q.2), (9, pInt .i64 q.1)]) (fun _ => [(7, .tail tBool 1)]) [7]
        (fun q => q.1 ≤ P.length ∧ openE false (P.take q.1) = false ∧ q.2.length = T.length + 1 ∧ LikeP.Row (pat p) T (partsE false (P.take q.1)).length (rowP q.2)) (fun q => P.length - q.1) (0, row0 T.length) ⟨Nat.zero_le _, rfl, by unfold row0; simp, row_start _ _⟩ ?start2 ?round2
      case start2 => exact ⟨[(7, 7)], rfl, rfl, ⟨.inl rfl, .inl rfl, ⟨rfl, rfl, rfl, rfl, rfl⟩, .inl rfl, trivial⟩, ⟨rfl, rfl, rfl⟩, trivial⟩
      case round2 =>
        rintro ⟨i, r⟩ ⟨hi, ho, hrl, hrow⟩
        dsimp only at hi ho hrl hrow ⊢
        ((conv => whnf); repeat ((with_reducible first | refine BCase.tt ?_ | refine BCase.ff ?_); (conv => whnf)))
        rw [List.length_map]
        refine BCase.d (fun h => ?_) (fun h => ?_)
        · ((conv => whnf); repeat ((with_reducible first | refine BCase.tt ?_ | refine BCase.ff ?_); (conv => whnf)))
          refine Idx.map (by omega) ?_
          ((conv => whnf); repeat ((with_reducible first | refine BCase.tt ?_ | refine BCase.ff ?_); (conv => whnf)))
          refine Idx.map (by omega) ?_
          ((conv => whnf); repeat ((with_reducible first | refine BCase.tt ?_ | refine BCase.ff ?_); (conv => whnf)))
          refine Idx.map (by omega) ?_
          ((conv => whnf); repeat ((with_reducible first | refine BCase.tt ?_ | refine BCase.ff ?_); (conv => whnf)))
          refine Idx.map (by omega) ?_
          ((conv => whnf); repeat ((with_reducible first | refine BCase.tt ?_ | refine BCase.ff ?_); (conv => whnf)))
          refine BCase.d (fun hb => ?_) (fun hb => ?_)
          · obtain ⟨h5, h6, h7, h8⟩ := step_bs hopP ho (by omega) hb
            ((conv => whnf); repeat ((with_reducible first | refine BCase.tt ?_ | refine BCase.ff ?_); (conv => whnf)))
            refine Wr.i64 (by omega) (by omega) ?_
            ((conv => whnf); repeat ((with_reducible first | refine BCase.tt ?_ | refine BCase.ff ?_); (conv => whnf)))
            refine Idx.mapI (i + 1) (by omega) h5 ?_
            ((conv => whnf); repeat ((with_reducible first | refine BCase.tt ?_ | refine BCase.ff ?_); (conv => whnf)))
            obtain ⟨any, hany⟩ : ∃ b : Bool, b = decide (P[i] = percent) := ⟨_, rfl⟩
            obtain ⟨one, hone⟩ : ∃ b : Bool, b = decide (P[i] = underscore) := ⟨_, rfl⟩
            obtain ⟨y, hy⟩ : ∃ y, y = P[i + 1] := ⟨_, rfl⟩
            have hf1 : any = false := by rw [hany, hb]; decide
            have hf2 : one = false := by rw [hone, hb]; decide
            obtain ⟨nx, hnx⟩ : ∃ f : Nat → Bool, f = fun k => if any = true then nxA r k else nxO r T one y k := ⟨_, rfl⟩
            refine LoopC.mk Nat (fun k => [(5, texts P), (6, texts T), (7, rowD 7 r), (9, pInt .i64 (i + 1 : Nat)), (10, pStr y), (11, pBool any), (12, pBool one), (13, rowD 13 (((List.range (T.length + 1)).map nx).take k)), (14, pInt .i64 k)]) (fun _ => [(7, .tail tBool 1), (13, .tail tBool 1)]) [7, 13] (fun k => k ≤ T.length + 1) (fun k => T.length + 1 - k) 0 (Nat.zero_le _) ?si1 ?ri1
            case si1 => exact ⟨[(7, 7)], rfl, rfl, ⟨.inl rfl, .inl rfl, ⟨rfl, rfl, rfl, rfl, rfl⟩, PLe.int (by omega), PLe.c (by rw [hy]), PLe.c (by rw [hany]; rfl), PLe.c (by rw [hone]; rfl), ⟨rfl, rfl, Nat.zero_lt_one, rfl, rfl⟩, .inl rfl, trivial⟩, ⟨rfl, rfl, rfl⟩, ⟨rfl, Nat.zero_lt_one⟩, trivial⟩
            case ri1 =>
              intro k hk
              ((conv => whnf); repeat ((with_reducible first | refine BCase.tt ?_ | refine BCase.ff ?_); (conv => whnf)))
              rw [List.length_map]
              refine BCase.d (fun h2 => ?_) (fun h2 => ?_)
              · have hln : ((((List.range (T.length + 1)).map nx).take k).map encB).length = k := row_len (by omega)
                ((conv => whnf); repeat ((with_reducible first | refine BCase.tt ?_ | refine BCase.ff ?_); (conv => whnf)))
                refine BCase.mk (fun ha => ?_) (fun ha => ?_)
                · have hnx : nx = nxA r := by rw [hnx]; funext j; rw [if_pos ha]
                  ((conv => whnf); repeat ((with_reducible first | refine BCase.tt ?_ | refine BCase.ff ?_); (conv => whnf)))
                  refine Idx.map (by omega) ?_
                  ((conv => whnf); repeat ((with_reducible first | refine BCase.tt ?_ | refine BCase.ff ?_); (conv => whnf)))
                  refine BCase.mk (fun hr => ?_) (fun hr => ?_)
                  · have hv : nx k = true := by rw [hnx, nxA_iff]; exact ⟨k, Nat.le_refl _, by unfold rowP; rw [List.getElem?_eq_getElem (by omega), hr]⟩
                    ((conv => whnf); repeat ((with_reducible first | refine BCase.tt ?_ | refine BCase.ff ?_); (conv => whnf)))
                    refine Need.mk (by show (_ + 1) * 1 ≤ _; rw [hln]; omega) ?_
                    ((conv => whnf); repeat ((with_reducible first | refine BCase.tt ?_ | refine BCase.ff ?_); (conv => whnf)))
                    refine Wr.i64 (by omega) (by omega) ?_
                    ((conv => whnf); repeat ((with_reducible first | refine BCase.tt ?_ | refine BCase.ff ?_); (conv => whnf)))
                    exact ⟨k + 1, by omega, by omega, [(7, 7), (13, 83)], rfl, rfl, ⟨.inl rfl, .inl rfl, ⟨rfl, rfl, rfl, rfl, rfl⟩, .inl rfl, .inl rfl, .inl rfl, .inl rfl, ⟨rfl, rfl, rfl, rfl, row_more (by omega) (hv)⟩, PLe.int (by omega), trivial⟩, ⟨rfl, rfl, rfl⟩, ⟨rfl, rfl, rfl⟩, trivial⟩
                  · ((conv => whnf); repeat ((with_reducible first | refine BCase.tt ?_ | refine BCase.ff ?_); (conv => whnf)))
                    refine BCase.d (fun h3 => ?_) (fun h3 => ?_)
                    · obtain ⟨j, rfl⟩ : ∃ j, k = j + 1 := ⟨k - 1, by omega⟩
                      have hv : nx (j + 1) = nx j := by rw [hnx, nxA_succ r j (by omega), hr]; rfl
                      ((conv => whnf); repeat ((with_reducible first | refine BCase.tt ?_ | refine BCase.ff ?_); (conv => whnf)))
                      refine Wr.i64 (by omega) (by omega) ?_
                      ((conv => whnf); repeat ((with_reducible first | refine BCase.tt ?_ | refine BCase.ff ?_); (conv => whnf)))
                      refine Idx.mapI j (by omega) (by simp; omega) ?_
                      rw [show (((List.range (T.length + 1)).map nx).take (j + 1))[j]'(by simp; omega) = nx j by simp]
                      ((conv => whnf); repeat ((with_reducible first | refine BCase.tt ?_ | refine BCase.ff ?_); (conv => whnf)))
                      refine Need.mk (by show (_ + 1) * 1 ≤ _; rw [hln]; omega) ?_
                      ((conv => whnf); repeat ((with_reducible first | refine BCase.tt ?_ | refine BCase.ff ?_); (conv => whnf)))
                      refine Wr.i64 (by omega) (by omega) ?_
                      ((conv => whnf); repeat ((with_reducible first | refine BCase.tt ?_ | refine BCase.ff ?_); (conv => whnf)))
                      exact ⟨j + 1 + 1, by omega, by omega, [(7, 7), (13, 83)], rfl, rfl, ⟨.inl rfl, .inl rfl, ⟨rfl, rfl, rfl, rfl, rfl⟩, .inl rfl, .inl rfl, .inl rfl, .inl rfl, ⟨rfl, rfl, rfl, rfl, row_more (by omega) (hv)⟩, PLe.int (by omega), trivial⟩, ⟨rfl, rfl, rfl⟩, ⟨rfl, rfl, rfl⟩, trivial⟩
                    · obtain rfl : k = 0 := by omega
                      have hv : nx 0 = false := by rw [hnx, nxA_zero r (by omega), hr]
                      ((conv => whnf); repeat ((with_reducible first | refine BCase.tt ?_ | refine BCase.ff ?_); (conv => whnf)))
                      refine Need.mk (by show (_ + 1) * 1 ≤ _; rw [hln]; omega) ?_
                      ((conv => whnf); repeat ((with_reducible first | refine BCase.tt ?_ | refine BCase.ff ?_); (conv => whnf)))
                      refine Wr.i64 (by omega) (by omega) ?_
                      ((conv => whnf); repeat ((with_reducible first | refine BCase.tt ?_ | refine BCase.ff ?_); (conv => whnf)))
                      exact ⟨0 + 1, by omega, by omega, [(7, 7), (13, 83)], rfl, rfl, ⟨.inl rfl, .inl rfl, ⟨rfl, rfl, rfl, rfl, rfl⟩, .inl rfl, .inl rfl, .inl rfl, .inl rfl, ⟨rfl, rfl, rfl, rfl, row_more (by omega) (hv)⟩, PLe.int (by omega), trivial⟩, ⟨rfl, rfl, rfl⟩, ⟨rfl, rfl, rfl⟩, trivial⟩
                · have hnx : nx = nxO r T one y := by rw [hnx]; funext j; rw [if_neg (by rw [ha]; decide)]
                  ((conv => whnf); repeat ((with_reducible first | refine BCase.tt ?_ | refine BCase.ff ?_); (conv => whnf)))
                  refine BCase.d (fun h3 => ?_) (fun h3 => ?_)
                  · obtain ⟨j, rfl⟩ : ∃ j, k = j + 1 := ⟨k - 1, by omega⟩
                    have hq : nx (j + 1) = (r.getD j false && (one || decide (T.getD j ByteArray.empty = y))) := by rw [hnx]; rfl
                    rw [List.getD_eq_getElem?_getD, List.getD_eq_getElem?_getD, List.getElem?_eq_getElem (by omega), List.getElem?_eq_getElem (by omega)] at hq
                    ((conv => whnf); repeat ((with_reducible first | refine BCase.tt ?_ | refine BCase.ff ?_); (conv => whnf)))
                    refine Wr.i64 (by omega) (by omega) ?_
                    ((conv => whnf); repeat ((with_reducible first | refine BCase.tt ?_ | refine BCase.ff ?_); (conv => whnf)))
                    refine Idx.mapI j (by omega) (by omega) ?_
                    ((conv => whnf); repeat ((with_reducible first | refine BCase.tt ?_ | refine BCase.ff ?_); (conv => whnf)))
                    refine BCase.mk (fun hr => ?_) (fun hr => ?_)
                    · ((conv => whnf); repeat ((with_reducible first | refine BCase.tt ?_ | refine BCase.ff ?_); (conv => whnf)))
                      refine BCase.mk (fun h1 => ?_) (fun h1 => ?_)
                      · have hv : nx (j + 1) = true := by rw [hq, Option.getD_some, hr, h1]; rfl
                        ((conv => whnf); repeat ((with_reducible first | refine BCase.tt ?_ | refine BCase.ff ?_); (conv => whnf)))
                        refine Need.mk (by show (_ + 1) * 1 ≤ _; rw [hln]; omega) ?_
                        ((conv => whnf); repeat ((with_reducible first | refine BCase.tt ?_ | refine BCase.ff ?_); (conv => whnf)))
                        refine Wr.i64 (by omega) (by omega) ?_
                        ((conv => whnf); repeat ((with_reducible first | refine BCase.tt ?_ | refine BCase.ff ?_); (conv => whnf)))
                        exact ⟨j + 1 + 1, by omega, by omega, [(7, 7), (13, 107)], rfl, rfl, ⟨.inl rfl, .inl rfl, ⟨rfl, rfl, rfl, rfl, rfl⟩, .inl rfl, .inl rfl, .inl rfl, .inl rfl, ⟨rfl, rfl, rfl, rfl, row_more (by omega) (hv)⟩, PLe.int (by omega), trivial⟩, ⟨rfl, rfl, rfl⟩, ⟨rfl, rfl, rfl⟩, trivial⟩
                      · have hv : nx (j + 1) = decide (T[j] = y) := by rw [hq, Option.getD_some, Option.getD_some, hr, h1]; rfl
                        ((conv => whnf); repeat ((with_reducible first | refine BCase.tt ?_ | refine BCase.ff ?_); (conv => whnf)))
                        refine Wr.i64 (by omega) (by omega) ?_
                        ((conv => whnf); repeat ((with_reducible first | refine BCase.tt ?_ | refine BCase.ff ?_); (conv => whnf)))
                        refine Idx.mapI j (by omega) (by omega) ?_
                        ((conv => whnf); repeat ((with_reducible first | refine BCase.tt ?_ | refine BCase.ff ?_); (conv => whnf)))
                        refine Need.mk (by show (_ + 1) * 1 ≤ _; rw [hln]; omega) ?_
                        ((conv => whnf); repeat ((with_reducible first | refine BCase.tt ?_ | refine BCase.ff ?_); (conv => whnf)))
                        refine Wr.i64 (by omega) (by omega) ?_
                        ((conv => whnf); repeat ((with_reducible first | refine BCase.tt ?_ | refine BCase.ff ?_); (conv => whnf)))
                        exact ⟨j + 1 + 1, by omega, by omega, [(7, 7), (13, 107)], rfl, rfl, ⟨.inl rfl, .inl rfl, ⟨rfl, rfl, rfl, rfl, rfl⟩, .inl rfl, .inl rfl, .inl rfl, .inl rfl, ⟨rfl, rfl, rfl, rfl, row_more (by omega) (hv)⟩, PLe.int (by omega), trivial⟩, ⟨rfl, rfl, rfl⟩, ⟨rfl, rfl, rfl⟩, trivial⟩
                    · have hv : nx (j + 1) = false := by rw [hq, Option.getD_some, hr]; rfl
                      ((conv => whnf); repeat ((with_reducible first | refine BCase.tt ?_ | refine BCase.ff ?_); (conv => whnf)))
                      refine Need.mk (by show (_ + 1) * 1 ≤ _; rw [hln]; omega) ?_
                      ((conv => whnf); repeat ((with_reducible first | refine BCase.tt ?_ | refine BCase.ff ?_); (conv => whnf)))
                      refine Wr.i64 (by omega) (by omega) ?_
                      ((conv => whnf); repeat ((with_reducible first | refine BCase.tt ?_ | refine BCase.ff ?_); (conv => whnf)))
                      exact ⟨j + 1 + 1, by omega, by omega, [(7, 7), (13, 107)], rfl, rfl, ⟨.inl rfl, .inl rfl, ⟨rfl, rfl, rfl, rfl, rfl⟩, .inl rfl, .inl rfl, .inl rfl, .inl rfl, ⟨rfl, rfl, rfl, rfl, row_more (by omega) (hv)⟩, PLe.int (by omega), trivial⟩, ⟨rfl, rfl, rfl⟩, ⟨rfl, rfl, rfl⟩, trivial⟩
                  · obtain rfl : k = 0 := by omega
                    have hv : nx 0 = false := by rw [hnx]; rfl
                    ((conv => whnf); repeat ((with_reducible first | refine BCase.tt ?_ | refine BCase.ff ?_); (conv => whnf)))
                    refine Need.mk (by show (_ + 1) * 1 ≤ _; rw [hln]; omega) ?_
                    ((conv => whnf); repeat ((with_reducible first | refine BCase.tt ?_ | refine BCase.ff ?_); (conv => whnf)))
                    refine Wr.i64 (by omega) (by omega) ?_
                    ((conv => whnf); repeat ((with_reducible first | refine BCase.tt ?_ | refine BCase.ff ?_); (conv => whnf)))
                    exact ⟨0 + 1, by omega, by omega, [(7, 7), (13, 107)], rfl, rfl, ⟨.inl rfl, .inl rfl, ⟨rfl, rfl, rfl, rfl, rfl⟩, .inl rfl, .inl rfl, .inl rfl, .inl rfl, ⟨rfl, rfl, rfl, rfl, row_more (by omega) (hv)⟩, PLe.int (by omega), trivial⟩, ⟨rfl, rfl, rfl⟩, ⟨rfl, rfl, rfl⟩, trivial⟩
              · have hfull : ((List.range (T.length + 1)).map nx).take k = (List.range (T.length + 1)).map nx := List.take_of_length_le (by simp; omega)
                ((conv => whnf); repeat ((with_reducible first | refine BCase.tt ?_ | refine BCase.ff ?_); (conv => whnf)))
                rw [hfull]
                refine Wr.i64 (by omega) (by omega) ?_
                ((conv => whnf); repeat ((with_reducible first | refine BCase.tt ?_ | refine BCase.ff ?_); (conv => whnf)))
                exact ⟨((i + 1 : Nat) + 1, (List.range (T.length + 1)).map nx), ⟨by show i + 1 + 1 ≤ _; omega, h7, by simp, by show LikeP.Row _ _ _ _; rw [h8, hnx, hf1, hf2]; exact row_one hrow (by rw [hPp]; exact h6) false y (by rw [hy]; exact stands_esc _) (by show (0 : Int) ≠ 37; decide)⟩, by omega, [(7, 13)], rfl, rfl, ⟨.inl rfl, .inl rfl, ⟨rfl, rfl, rfl, rfl, rfl⟩, PLe.int (by show _ = _; omega), trivial⟩, ⟨rfl, rfl, rfl⟩, trivial⟩
          · obtain ⟨any, hany⟩ : ∃ b : Bool, b = decide (P[i] = percent) := ⟨_, rfl⟩
            obtain ⟨one, hone⟩ : ∃ b : Bool, b = decide (P[i] = underscore) := ⟨_, rfl⟩
            obtain ⟨y, hy⟩ : ∃ y, y = P[i] := ⟨_, rfl⟩
            have hstep : ∀ nx : Nat → Bool, (nx = fun k => if any = true then nxA r k else nxO r T one y k) → openE false (P.take (i + 1)) = false ∧ LikeP.Row (pat p) T (partsE false (P.take (i + 1))).length (rowP ((List.range (T.length + 1)).map nx)) := by
              intro nx hnx
              by_cases c1 : P[i] = percent
              · obtain ⟨h6, h7, h8⟩ := step_one ho (by omega) hb (37, ⟨#[]⟩) (part_any c1)
                refine ⟨h7, ?_⟩
                rw [h8, hnx, show any = true by rw [hany]; exact decide_eq_true c1]
                exact row_any hrow (by rw [hPp]; exact h6) rfl
              · rw [hnx, show any = false by rw [hany]; exact decide_eq_false c1]
                by_cases c2 : P[i] = underscore
                · obtain ⟨h6, h7, h8⟩ := step_one ho (by omega) hb (95, ⟨#[]⟩) (part_one c2)
                  refine ⟨h7, ?_⟩
                  rw [h8, show one = true by rw [hone]; exact decide_eq_true c2]
                  exact row_one hrow (by rw [hPp]; exact h6) true y (stands_under _ _) (by show (95 : Int) ≠ 37; decide)
                · obtain ⟨h6, h7, h8⟩ := step_one ho (by omega) hb (0, P[i]) (part_self hb c1 c2)
                  refine ⟨h7, ?_⟩
                  rw [h8, show one = false by rw [hone]; exact decide_eq_false c2]
                  exact row_one hrow (by rw [hPp]; exact h6) false y (by rw [hy]; exact stands_esc _) (by show (0 : Int) ≠ 37; decide)
            ((conv => whnf); repeat ((with_reducible first | refine BCase.tt ?_ | refine BCase.ff ?_); (conv => whnf)))
            obtain ⟨nx, hnx⟩ : ∃ f : Nat → Bool, f = fun k => if any = true then nxA r k else nxO r T one y k := ⟨_, rfl⟩
            refine LoopC.mk Nat (fun k => [(5, texts P), (6, texts T), (7, rowD 7 r), (9, pInt .i64 i), (10, pStr y), (11, pBool any), (12, pBool one), (13, rowD 13 (((List.range (T.length + 1)).map nx).take k)), (14, pInt .i64 k)]) (fun _ => [(7, .tail tBool 1), (13, .tail tBool 1)]) [7, 13] (fun k => k ≤ T.length + 1) (fun k => T.length + 1 - k) 0 (Nat.zero_le _) ?si2 ?ri2
            case si2 => exact ⟨[(7, 7)], rfl, rfl, ⟨.inl rfl, .inl rfl, ⟨rfl, rfl, rfl, rfl, rfl⟩, .inl rfl, PLe.c (by rw [hy]), PLe.c (by rw [hany]; rfl), PLe.c (by rw [hone]; rfl), ⟨rfl, rfl, Nat.zero_lt_one, rfl, rfl⟩, .inl rfl, trivial⟩, ⟨rfl, rfl, rfl⟩, ⟨rfl, Nat.zero_lt_one⟩, trivial⟩
            case ri2 =>
              intro k hk
              ((conv => whnf); repeat ((with_reducible first | refine BCase.tt ?_ | refine BCase.ff ?_); (conv => whnf)))
              rw [List.length_map]
              refine BCase.d (fun h2 => ?_) (fun h2 => ?_)
              · have hln : ((((List.range (T.length + 1)).map nx).take k).map encB).length = k := row_len (by omega)
                ((conv => whnf); repeat ((with_reducible first | refine BCase.tt ?_ | refine BCase.ff ?_); (conv => whnf)))
                refine BCase.mk (fun ha => ?_) (fun ha => ?_)
                · have hnx : nx = nxA r := by rw [hnx]; funext j; rw [if_pos ha]
                  ((conv => whnf); repeat ((with_reducible first | refine BCase.tt ?_ | refine BCase.ff ?_); (conv => whnf)))
                  refine Idx.map (by omega) ?_
                  ((conv => whnf); repeat ((with_reducible first | refine BCase.tt ?_ | refine BCase.ff ?_); (conv => whnf)))
                  refine BCase.mk (fun hr => ?_) (fun hr => ?_)
                  · have hv : nx k = true := by rw [hnx, nxA_iff]; exact ⟨k, Nat.le_refl _, by unfold rowP; rw [List.getElem?_eq_getElem (by omega), hr]⟩
                    ((conv => whnf); repeat ((with_reducible first | refine BCase.tt ?_ | refine BCase.ff ?_); (conv => whnf)))
                    refine Need.mk (by show (_ + 1) * 1 ≤ _; rw [hln]; omega) ?_
                    ((conv => whnf); repeat ((with_reducible first | refine BCase.tt ?_ | refine BCase.ff ?_); (conv => whnf)))
                    refine Wr.i64 (by omega) (by omega) ?_
                    ((conv => whnf); repeat ((with_reducible first | refine BCase.tt ?_ | refine BCase.ff ?_); (conv => whnf)))
                    exact ⟨k + 1, by omega, by omega, [(7, 7), (13, 83)], rfl, rfl, ⟨.inl rfl, .inl rfl, ⟨rfl, rfl, rfl, rfl, rfl⟩, .inl rfl, .inl rfl, .inl rfl, .inl rfl, ⟨rfl, rfl, rfl, rfl, row_more (by omega) (hv)⟩, PLe.int (by omega), trivial⟩, ⟨rfl, rfl, rfl⟩, ⟨rfl, rfl, rfl⟩, trivial⟩
                  · ((conv => whnf); repeat ((with_reducible first | refine BCase.tt ?_ | refine BCase.ff ?_); (conv => whnf)))
                    refine BCase.d (fun h3 => ?_) (fun h3 => ?_)
                    · obtain ⟨j, rfl⟩ : ∃ j, k = j + 1 := ⟨k - 1, by omega⟩
                      have hv : nx (j + 1) = nx j := by rw [hnx, nxA_succ r j (by omega), hr]; rfl
                      ((conv => whnf); repeat ((with_reducible first | refine BCase.tt ?_ | refine BCase.ff ?_); (conv => whnf)))
                      refine Wr.i64 (by omega) (by omega) ?_
                      ((conv => whnf); repeat ((with_reducible first | refine BCase.tt ?_ | refine BCase.ff ?_); (conv => whnf)))
                      refine Idx.mapI j (by omega) (by simp; omega) ?_
                      rw [show (((List.range (T.length + 1)).map nx).take (j + 1))[j]'(by simp; omega) = nx j by simp]
                      ((conv => whnf); repeat ((with_reducible first | refine BCase.tt ?_ | refine BCase.ff ?_); (conv => whnf)))
                      refine Need.mk (by show (_ + 1) * 1 ≤ _; rw [hln]; omega) ?_
                      ((conv => whnf); repeat ((with_reducible first | refine BCase.tt ?_ | refine BCase.ff ?_); (conv => whnf)))
                      refine Wr.i64 (by omega) (by omega) ?_
                      ((conv => whnf); repeat ((with_reducible first | refine BCase.tt ?_ | refine BCase.ff ?_); (conv => whnf)))
                      exact ⟨j + 1 + 1, by omega, by omega, [(7, 7), (13, 83)], rfl, rfl, ⟨.inl rfl, .inl rfl, ⟨rfl, rfl, rfl, rfl, rfl⟩, .inl rfl, .inl rfl, .inl rfl, .inl rfl, ⟨rfl, rfl, rfl, rfl, row_more (by omega) (hv)⟩, PLe.int (by omega), trivial⟩, ⟨rfl, rfl, rfl⟩, ⟨rfl, rfl, rfl⟩, trivial⟩
                    · obtain rfl : k = 0 := by omega
                      have hv : nx 0 = false := by rw [hnx, nxA_zero r (by omega), hr]
                      ((conv => whnf); repeat ((with_reducible first | refine BCase.tt ?_ | refine BCase.ff ?_); (conv => whnf)))
                      refine Need.mk (by show (_ + 1) * 1 ≤ _; rw [hln]; omega) ?_
                      ((conv => whnf); repeat ((with_reducible first | refine BCase.tt ?_ | refine BCase.ff ?_); (conv => whnf)))
                      refine Wr.i64 (by omega) (by omega) ?_
                      ((conv => whnf); repeat ((with_reducible first | refine BCase.tt ?_ | refine BCase.ff ?_); (conv => whnf)))
                      exact ⟨0 + 1, by omega, by omega, [(7, 7), (13, 83)], rfl, rfl, ⟨.inl rfl, .inl rfl, ⟨rfl, rfl, rfl, rfl, rfl⟩, .inl rfl, .inl rfl, .inl rfl, .inl rfl, ⟨rfl, rfl, rfl, rfl, row_more (by omega) (hv)⟩, PLe.int (by omega), trivial⟩, ⟨rfl, rfl, rfl⟩, ⟨rfl, rfl, rfl⟩, trivial⟩
                · have hnx : nx = nxO r T one y := by rw [hnx]; funext j; rw [if_neg (by rw [ha]; decide)]
                  ((conv => whnf); repeat ((with_reducible first | refine BCase.tt ?_ | refine BCase.ff ?_); (conv => whnf)))
                  refine BCase.d (fun h3 => ?_) (fun h3 => ?_)
                  · obtain ⟨j, rfl⟩ : ∃ j, k = j + 1 := ⟨k - 1, by omega⟩
                    have hq : nx (j + 1) = (r.getD j false && (one || decide (T.getD j ByteArray.empty = y))) := by rw [hnx]; rfl
                    rw [List.getD_eq_getElem?_getD, List.getD_eq_getElem?_getD, List.getElem?_eq_getElem (by omega), List.getElem?_eq_getElem (by omega)] at hq
                    ((conv => whnf); repeat ((with_reducible first | refine BCase.tt ?_ | refine BCase.ff ?_); (conv => whnf)))
                    refine Wr.i64 (by omega) (by omega) ?_
                    ((conv => whnf); repeat ((with_reducible first | refine BCase.tt ?_ | refine BCase.ff ?_); (conv => whnf)))
                    refine Idx.mapI j (by omega) (by omega) ?_
                    ((conv => whnf); repeat ((with_reducible first | refine BCase.tt ?_ | refine BCase.ff ?_); (conv => whnf)))
                    refine BCase.mk (fun hr => ?_) (fun hr => ?_)
                    · ((conv => whnf); repeat ((with_reducible first | refine BCase.tt ?_ | refine BCase.ff ?_); (conv => whnf)))
                      refine BCase.mk (fun h1 => ?_) (fun h1 => ?_)
                      · have hv : nx (j + 1) = true := by rw [hq, Option.getD_some, hr, h1]; rfl
                        ((conv => whnf); repeat ((with_reducible first | refine BCase.tt ?_ | refine BCase.ff ?_); (conv => whnf)))
                        refine Need.mk (by show (_ + 1) * 1 ≤ _; rw [hln]; omega) ?_
                        ((conv => whnf); repeat ((with_reducible first | refine BCase.tt ?_ | refine BCase.ff ?_); (conv => whnf)))
                        refine Wr.i64 (by omega) (by omega) ?_
                        ((conv => whnf); repeat ((with_reducible first | refine BCase.tt ?_ | refine BCase.ff ?_); (conv => whnf)))
                        exact ⟨j + 1 + 1, by omega, by omega, [(7, 7), (13, 107)], rfl, rfl, ⟨.inl rfl, .inl rfl, ⟨rfl, rfl, rfl, rfl, rfl⟩, .inl rfl, .inl rfl, .inl rfl, .inl rfl, ⟨rfl, rfl, rfl, rfl, row_more (by omega) (hv)⟩, PLe.int (by omega), trivial⟩, ⟨rfl, rfl, rfl⟩, ⟨rfl, rfl, rfl⟩, trivial⟩
                      · have hv : nx (j + 1) = decide (T[j] = y) := by rw [hq, Option.getD_some, Option.getD_some, hr, h1]; rfl
                        ((conv => whnf); repeat ((with_reducible first | refine BCase.tt ?_ | refine BCase.ff ?_); (conv => whnf)))
                        refine Wr.i64 (by omega) (by omega) ?_
                        ((conv => whnf); repeat ((with_reducible first | refine BCase.tt ?_ | refine BCase.ff ?_); (conv => whnf)))
                        refine Idx.mapI j (by omega) (by omega) ?_
                        ((conv => whnf); repeat ((with_reducible first | refine BCase.tt ?_ | refine BCase.ff ?_); (conv => whnf)))
                        refine Need.mk (by show (_ + 1) * 1 ≤ _; rw [hln]; omega) ?_
                        ((conv => whnf); repeat ((with_reducible first | refine BCase.tt ?_ | refine BCase.ff ?_); (conv => whnf)))
                        refine Wr.i64 (by omega) (by omega) ?_
                        ((conv => whnf); repeat ((with_reducible first | refine BCase.tt ?_ | refine BCase.ff ?_); (conv => whnf)))
                        exact ⟨j + 1 + 1, by omega, by omega, [(7, 7), (13, 107)], rfl, rfl, ⟨.inl rfl, .inl rfl, ⟨rfl, rfl, rfl, rfl, rfl⟩, .inl rfl, .inl rfl, .inl rfl, .inl rfl, ⟨rfl, rfl, rfl, rfl, row_more (by omega) (hv)⟩, PLe.int (by omega), trivial⟩, ⟨rfl, rfl, rfl⟩, ⟨rfl, rfl, rfl⟩, trivial⟩
                    · have hv : nx (j + 1) = false := by rw [hq, Option.getD_some, hr]; rfl
                      ((conv => whnf); repeat ((with_reducible first | refine BCase.tt ?_ | refine BCase.ff ?_); (conv => whnf)))
                      refine Need.mk (by show (_ + 1) * 1 ≤ _; rw [hln]; omega) ?_
                      ((conv => whnf); repeat ((with_reducible first | refine BCase.tt ?_ | refine BCase.ff ?_); (conv => whnf)))
                      refine Wr.i64 (by omega) (by omega) ?_
                      ((conv => whnf); repeat ((with_reducible first | refine BCase.tt ?_ | refine BCase.ff ?_); (conv => whnf)))
                      exact ⟨j + 1 + 1, by omega, by omega, [(7, 7), (13, 107)], rfl, rfl, ⟨.inl rfl, .inl rfl, ⟨rfl, rfl, rfl, rfl, rfl⟩, .inl rfl, .inl rfl, .inl rfl, .inl rfl, ⟨rfl, rfl, rfl, rfl, row_more (by omega) (hv)⟩, PLe.int (by omega), trivial⟩, ⟨rfl, rfl, rfl⟩, ⟨rfl, rfl, rfl⟩, trivial⟩
                  · obtain rfl : k = 0 := by omega
                    have hv : nx 0 = false := by rw [hnx]; rfl
                    ((conv => whnf); repeat ((with_reducible first | refine BCase.tt ?_ | refine BCase.ff ?_); (conv => whnf)))
                    refine Need.mk (by show (_ + 1) * 1 ≤ _; rw [hln]; omega) ?_
                    ((conv => whnf); repeat ((with_reducible first | refine BCase.tt ?_ | refine BCase.ff ?_); (conv => whnf)))
                    refine Wr.i64 (by omega) (by omega) ?_
                    ((conv => whnf); repeat ((with_reducible first | refine BCase.tt ?_ | refine BCase.ff ?_); (conv => whnf)))
                    exact ⟨0 + 1, by omega, by omega, [(7, 7), (13, 107)], rfl, rfl, ⟨.inl rfl, .inl rfl, ⟨rfl, rfl, rfl, rfl, rfl⟩, .inl rfl, .inl rfl, .inl rfl, .inl rfl, ⟨rfl, rfl, rfl, rfl, row_more (by omega) (hv)⟩, PLe.int (by omega), trivial⟩, ⟨rfl, rfl, rfl⟩, ⟨rfl, rfl, rfl⟩, trivial⟩
              · have hfull : ((List.range (T.length + 1)).map nx).take k = (List.range (T.length + 1)).map nx := List.take_of_length_le (by simp; omega)
                ((conv => whnf); repeat ((with_reducible first | refine BCase.tt ?_ | refine BCase.ff ?_); (conv => whnf)))
                rw [hfull]
                refine Wr.i64 (by omega) (by omega) ?_
                ((conv => whnf); repeat ((with_reducible first | refine BCase.tt ?_ | refine BCase.ff ?_); (conv => whnf)))
                exact ⟨(i + 1, (List.range (T.length + 1)).map nx), ⟨by show i + 1 ≤ _; omega, (hstep nx hnx).1, by simp, (hstep nx hnx).2⟩, by omega, [(7, 13)], rfl, rfl, ⟨.inl rfl, .inl rfl, ⟨rfl, rfl, rfl, rfl, rfl⟩, PLe.int (by show _ = _; omega), trivial⟩, ⟨rfl, rfl, rfl⟩, trivial⟩
        · have hie : i = P.length := by omega
          ((conv => whnf); repeat ((with_reducible first | refine BCase.tt ?_ | refine BCase.ff ?_); (conv => whnf)))
          rw [List.length_map]
          refine Idx.map (by omega) ?_
          ((conv => whnf); repeat ((with_reducible first | refine BCase.tt ?_ | refine BCase.ff ?_); (conv => whnf)))
          refine Ret.mk ?_
          subst hie
          rw [List.take_of_length_le (Nat.le_refl _), ← hPp] at hrow
          have hd := hrow.done
          have hg : matB p s = r[T.length] := hfin (by
            rw [← hT, hd]
            unfold rowP
            rw [List.getElem?_eq_getElem (by omega)]
            simp)
          rw [hg]
end Go.Proofs.YtggdfnjomonbkaaGreatDoor.Pm
end
section
namespace Go.Proofs.YtggdfnjomonbkaaGreatDoor.Pm
open Go.RowKit K
set_option linter.unusedVariables false
set_option linter.unusedSimpArgs false
set_option maxRecDepth 100000
theorem p_wholeof (op a b : Int) (ho : op = 3 ∨ (5 ≤ op ∧ op ≤ 9)) (ha : WholeP.In64 a) (hb : WholeP.In64 b) : Pure Tryz.prog 70 [pInt .i64 op, pInt .i64 a, pInt .i64 b] (pFit (whoF op a b)) := by
  have hc : op = 3 ∨ op = 5 ∨ op = 6 ∨ op = 7 ∨ op = 8 ∨ op = 9 := by omega
  refine pure_of Tryz.func70 (by rfl) rfl (by kernel_rfl) (by rfl) ?_
  rcases hc with rfl | rfl | rfl | rfl | rfl | rfl
  · have p := p_minusof 0 a (by decide) ha
    rw [Int.zero_sub] at p
    ((conv => whnf); repeat' ((first | (with_reducible first | apply a_ | apply b_ | apply c_) | ((with_reducible first | apply d_ | apply e_ | apply f_ | apply g_); focus first | omega | (simp only [q_] <;> omega)) | ((with_reducible first | apply i_ | apply h_); focus first | omega | (simp only [q_] <;> omega)) | ((with_reducible apply h_); focus first | decide | kernel_rfl) | refine BCase.t (by decide) ?_ | refine BCase.f (by decide) ?_ | refine CallP.pure _ rfl _ (p) ?_ | with_reducible first | apply l_ | apply m_ | apply n_ | apply o_ | refine p_ (fun _ => ?_) (fun _ => ?_)) <;> (conv => whnf)))
    exact Ret.eq rfl
  · have p := p_plusof a b ha hb
    ((conv => whnf); repeat' ((first | (with_reducible first | apply a_ | apply b_ | apply c_) | ((with_reducible first | apply d_ | apply e_ | apply f_ | apply g_); focus first | omega | (simp only [q_] <;> omega)) | ((with_reducible first | apply i_ | apply h_); focus first | omega | (simp only [q_] <;> omega)) | ((with_reducible apply h_); focus first | decide | kernel_rfl) | refine BCase.t (by decide) ?_ | refine BCase.f (by decide) ?_ | refine CallP.pure _ rfl _ (p) ?_ | with_reducible first | apply l_ | apply m_ | apply n_ | apply o_ | refine p_ (fun _ => ?_) (fun _ => ?_)) <;> (conv => whnf)))
    exact Ret.eq rfl
  · have p := p_minusof a b ha hb
    ((conv => whnf); repeat' ((first | (with_reducible first | apply a_ | apply b_ | apply c_) | ((with_reducible first | apply d_ | apply e_ | apply f_ | apply g_); focus first | omega | (simp only [q_] <;> omega)) | ((with_reducible first | apply i_ | apply h_); focus first | omega | (simp only [q_] <;> omega)) | ((with_reducible apply h_); focus first | decide | kernel_rfl) | refine BCase.t (by decide) ?_ | refine BCase.f (by decide) ?_ | refine CallP.pure _ rfl _ (p) ?_ | with_reducible first | apply l_ | apply m_ | apply n_ | apply o_ | refine p_ (fun _ => ?_) (fun _ => ?_)) <;> (conv => whnf)))
    exact Ret.eq rfl
  · have p := p_timesof a b ha hb
    ((conv => whnf); repeat' ((first | (with_reducible first | apply a_ | apply b_ | apply c_) | ((with_reducible first | apply d_ | apply e_ | apply f_ | apply g_); focus first | omega | (simp only [q_] <;> omega)) | ((with_reducible first | apply i_ | apply h_); focus first | omega | (simp only [q_] <;> omega)) | ((with_reducible apply h_); focus first | decide | kernel_rfl) | refine BCase.t (by decide) ?_ | refine BCase.f (by decide) ?_ | refine CallP.pure _ rfl _ (p) ?_ | with_reducible first | apply l_ | apply m_ | apply n_ | apply o_ | refine p_ (fun _ => ?_) (fun _ => ?_)) <;> (conv => whnf)))
    exact Ret.eq rfl
  · have p := p_overof a b ha hb
    ((conv => whnf); repeat' ((first | (with_reducible first | apply a_ | apply b_ | apply c_) | ((with_reducible first | apply d_ | apply e_ | apply f_ | apply g_); focus first | omega | (simp only [q_] <;> omega)) | ((with_reducible first | apply i_ | apply h_); focus first | omega | (simp only [q_] <;> omega)) | ((with_reducible apply h_); focus first | decide | kernel_rfl) | refine BCase.t (by decide) ?_ | refine BCase.f (by decide) ?_ | refine CallP.pure _ rfl _ (p) ?_ | with_reducible first | apply l_ | apply m_ | apply n_ | apply o_ | refine p_ (fun _ => ?_) (fun _ => ?_)) <;> (conv => whnf)))
    exact Ret.eq rfl
  · have p := p_leftof a b ha hb
    ((conv => whnf); repeat' ((first | (with_reducible first | apply a_ | apply b_ | apply c_) | ((with_reducible first | apply d_ | apply e_ | apply f_ | apply g_); focus first | omega | (simp only [q_] <;> omega)) | ((with_reducible first | apply i_ | apply h_); focus first | omega | (simp only [q_] <;> omega)) | ((with_reducible apply h_); focus first | decide | kernel_rfl) | refine BCase.t (by decide) ?_ | refine BCase.f (by decide) ?_ | refine CallP.pure _ rfl _ (p) ?_ | with_reducible first | apply l_ | apply m_ | apply n_ | apply o_ | refine p_ (fun _ => ?_) (fun _ => ?_)) <;> (conv => whnf)))
    exact Ret.eq rfl
theorem rv_text {v : ValueD} (h : RV v) : okText v.S := by
  have := (okV_kind h.1).2.2
  unfold okText; omega
theorem p_askof (op : Int) (k : List ValueD) (h1 : leastK op ≤ k.length) (h2 : (k.length : Int) ≤ mostK op) (hk : ∀ v ∈ k, RV v) (ho : (10 ≤ op ∧ op ≤ 15) ∨ op = 18 ∨ op = 19 ∨ (22 ≤ op ∧ op ≤ 25)) :
    Pure Tryz.prog 77 [pInt .i64 op, slV 3 ValueD.c k] (pInt .i64 (askR op k)) := by
  have hm := mostK_le op
  have hc : op = 10 ∨ op = 11 ∨ op = 12 ∨ op = 13 ∨ op = 14 ∨ op = 15 ∨ op = 18 ∨ op = 19 ∨ op = 22 ∨ op = 23 ∨ op = 24 ∨ op = 25 := by omega
  have hp : 1 ≤ leastK op := by rcases hc with rfl | rfl | rfl | rfl | rfl | rfl | rfl | rfl | rfl | rfl | rfl | rfl <;> decide
  have l0 : 0 < k.length := by omega
  have t0 := rv_text (hk _ (List.getElem_mem l0))
  refine pure_of Tryz.func77 (by rfl) rfl (by kernel_rfl) (by rfl) ?_
  by_cases s18 : op = 18 ∨ op = 19
  · rcases s18 with rfl | rfl
    · rw [show askR 18 k = tOf (isN (k.getD 0 noV) == decide ((18 : Int) = 18)) from by simp [askR], getD_at l0]
      have p := p_truth (isN k[0] == decide ((18 : Int) = 18))
      ((conv => whnf); repeat' ((first | (with_reducible first | apply a_ | apply b_ | apply c_) | ((with_reducible first | apply d_ | apply e_ | apply f_ | apply g_); focus first | omega | (simp only [q_] <;> omega)) | ((with_reducible first | apply i_ | apply h_); focus first | omega | (simp only [q_] <;> omega)) | ((with_reducible apply h_); focus first | decide | kernel_rfl) | refine BCase.t (by decide) ?_ | refine BCase.f (by decide) ?_ | (refine Idx.mapI 0 rfl l0 ?_) | refine CallP.pure _ rfl _ (p) ?_ | with_reducible first | apply l_ | apply m_ | apply n_ | apply o_ | refine p_ (fun _ => ?_) (fun _ => ?_)) <;> (conv => whnf)))
      all_goals exact Ret.int rfl
    · rw [show askR 19 k = tOf (isN (k.getD 0 noV) == decide ((19 : Int) = 18)) from by simp [askR], getD_at l0]
      have p := p_truth (isN k[0] == decide ((19 : Int) = 18))
      ((conv => whnf); repeat' ((first | (with_reducible first | apply a_ | apply b_ | apply c_) | ((with_reducible first | apply d_ | apply e_ | apply f_ | apply g_); focus first | omega | (simp only [q_] <;> omega)) | ((with_reducible first | apply i_ | apply h_); focus first | omega | (simp only [q_] <;> omega)) | ((with_reducible apply h_); focus first | decide | kernel_rfl) | refine BCase.t (by decide) ?_ | refine BCase.f (by decide) ?_ | (refine Idx.mapI 0 rfl l0 ?_) | refine CallP.pure _ rfl _ (p) ?_ | with_reducible first | apply l_ | apply m_ | apply n_ | apply o_ | refine p_ (fun _ => ?_) (fun _ => ?_)) <;> (conv => whnf)))
      all_goals exact Ret.int rfl
  · have hl2 : 2 ≤ leastK op := by rcases hc with rfl | rfl | rfl | rfl | rfl | rfl | rfl | rfl | rfl | rfl | rfl | rfl <;> first | decide | (exfalso; omega)
    have l1 : 1 < k.length := by omega
    have t1 := rv_text (hk _ (List.getElem_mem l1))
    have pS := p_sameof k[0] k[1]
    have pL := p_lessof k[0] k[1] t0 t1
    have pG := p_lessof k[1] k[0] t1 t0
    have pI := p_inof k[0] (k.drop 1) (by rw [List.length_drop]; omega)
    have e1 : ∀ n, n = (((k.map ValueD.c).length : Nat) : Int).toNat - (1 : Int).toNat → slV 3 ValueD.c (k.drop 1) = .d (.c (.sl 3 (((k.map ValueD.c).drop (1 : Int).toNat).take n))) := by
      rintro n rfl
      rw [List.take_of_length_le (by rw [List.length_drop]; omega), ← List.map_drop]; rfl
    rw [e1 _ rfl] at pI
    have nS := p_truthnot (rSame k[0] k[1])
    have nL := p_truthnot (rLess k[0] k[1])
    have nG := p_truthnot (rLess k[1] k[0])
    have nI := p_truthnot (rIn k[0] (k.drop 1))
    rcases hc with rfl | rfl | rfl | rfl | rfl | rfl | rfl | rfl | rfl | rfl | rfl | rfl
    · simp only [askR, getD_at l0, getD_at l1]
      ((conv => whnf); repeat' ((first | (with_reducible first | apply a_ | apply b_ | apply c_) | ((with_reducible first | apply d_ | apply e_ | apply f_ | apply g_); focus first | omega | (simp only [q_] <;> omega)) | ((with_reducible first | apply i_ | apply h_); focus first | omega | (simp only [q_] <;> omega)) | ((with_reducible apply h_); focus first | decide | kernel_rfl) | refine BCase.t (by decide) ?_ | refine BCase.f (by decide) ?_ | (refine Idx.mapI 0 rfl l0 ?_) | (refine Idx.mapI 1 rfl l1 ?_) | refine CallP.pure _ rfl _ (pS) ?_ | with_reducible first | apply l_ | apply m_ | apply n_ | apply o_ | refine p_ (fun _ => ?_) (fun _ => ?_)) <;> (conv => whnf)))
      all_goals exact Ret.int rfl
    · rw [show askR 11 k = tNot (rSame (k.getD 0 noV) (k.getD 1 noV)) from by simp [askR], getD_at l0, getD_at l1]
      ((conv => whnf); repeat' ((first | (with_reducible first | apply a_ | apply b_ | apply c_) | ((with_reducible first | apply d_ | apply e_ | apply f_ | apply g_); focus first | omega | (simp only [q_] <;> omega)) | ((with_reducible first | apply i_ | apply h_); focus first | omega | (simp only [q_] <;> omega)) | ((with_reducible apply h_); focus first | decide | kernel_rfl) | refine BCase.t (by decide) ?_ | refine BCase.f (by decide) ?_ | (refine Idx.mapI 0 rfl l0 ?_) | (refine Idx.mapI 1 rfl l1 ?_) | refine CallP.pure _ rfl _ (pS) ?_ | refine CallP.pure _ rfl _ (nS) ?_ | with_reducible first | apply l_ | apply m_ | apply n_ | apply o_ | refine p_ (fun _ => ?_) (fun _ => ?_)) <;> (conv => whnf)))
      all_goals exact Ret.int rfl
    · rw [show askR 12 k = (rLess (k.getD 0 noV) (k.getD 1 noV)) from by simp [askR], getD_at l0, getD_at l1]
      ((conv => whnf); repeat' ((first | (with_reducible first | apply a_ | apply b_ | apply c_) | ((with_reducible first | apply d_ | apply e_ | apply f_ | apply g_); focus first | omega | (simp only [q_] <;> omega)) | ((with_reducible first | apply i_ | apply h_); focus first | omega | (simp only [q_] <;> omega)) | ((with_reducible apply h_); focus first | decide | kernel_rfl) | refine BCase.t (by decide) ?_ | refine BCase.f (by decide) ?_ | (refine Idx.mapI 0 rfl l0 ?_) | (refine Idx.mapI 1 rfl l1 ?_) | refine CallP.pure _ rfl _ (pL) ?_ | with_reducible first | apply l_ | apply m_ | apply n_ | apply o_ | refine p_ (fun _ => ?_) (fun _ => ?_)) <;> (conv => whnf)))
      all_goals exact Ret.int rfl
    · rw [show askR 13 k = tNot (rLess (k.getD 1 noV) (k.getD 0 noV)) from by simp [askR], getD_at l0, getD_at l1]
      ((conv => whnf); repeat' ((first | (with_reducible first | apply a_ | apply b_ | apply c_) | ((with_reducible first | apply d_ | apply e_ | apply f_ | apply g_); focus first | omega | (simp only [q_] <;> omega)) | ((with_reducible first | apply i_ | apply h_); focus first | omega | (simp only [q_] <;> omega)) | ((with_reducible apply h_); focus first | decide | kernel_rfl) | refine BCase.t (by decide) ?_ | refine BCase.f (by decide) ?_ | (refine Idx.mapI 0 rfl l0 ?_) | (refine Idx.mapI 1 rfl l1 ?_) | refine CallP.pure _ rfl _ (pG) ?_ | refine CallP.pure _ rfl _ (nG) ?_ | with_reducible first | apply l_ | apply m_ | apply n_ | apply o_ | refine p_ (fun _ => ?_) (fun _ => ?_)) <;> (conv => whnf)))
      all_goals exact Ret.int rfl
    · rw [show askR 14 k = (rLess (k.getD 1 noV) (k.getD 0 noV)) from by simp [askR], getD_at l0, getD_at l1]
      ((conv => whnf); repeat' ((first | (with_reducible first | apply a_ | apply b_ | apply c_) | ((with_reducible first | apply d_ | apply e_ | apply f_ | apply g_); focus first | omega | (simp only [q_] <;> omega)) | ((with_reducible first | apply i_ | apply h_); focus first | omega | (simp only [q_] <;> omega)) | ((with_reducible apply h_); focus first | decide | kernel_rfl) | refine BCase.t (by decide) ?_ | refine BCase.f (by decide) ?_ | (refine Idx.mapI 0 rfl l0 ?_) | (refine Idx.mapI 1 rfl l1 ?_) | refine CallP.pure _ rfl _ (pG) ?_ | with_reducible first | apply l_ | apply m_ | apply n_ | apply o_ | refine p_ (fun _ => ?_) (fun _ => ?_)) <;> (conv => whnf)))
      all_goals exact Ret.int rfl
    · rw [show askR 15 k = tNot (rLess (k.getD 0 noV) (k.getD 1 noV)) from by simp [askR], getD_at l0, getD_at l1]
      ((conv => whnf); repeat' ((first | (with_reducible first | apply a_ | apply b_ | apply c_) | ((with_reducible first | apply d_ | apply e_ | apply f_ | apply g_); focus first | omega | (simp only [q_] <;> omega)) | ((with_reducible first | apply i_ | apply h_); focus first | omega | (simp only [q_] <;> omega)) | ((with_reducible apply h_); focus first | decide | kernel_rfl) | refine BCase.t (by decide) ?_ | refine BCase.f (by decide) ?_ | (refine Idx.mapI 0 rfl l0 ?_) | (refine Idx.mapI 1 rfl l1 ?_) | refine CallP.pure _ rfl _ (pL) ?_ | refine CallP.pure _ rfl _ (nL) ?_ | with_reducible first | apply l_ | apply m_ | apply n_ | apply o_ | refine p_ (fun _ => ?_) (fun _ => ?_)) <;> (conv => whnf)))
      all_goals exact Ret.int rfl
    · exfalso; omega
    · exfalso; omega
    · rw [show askR 22 k = (rIn (k.getD 0 noV) (k.drop 1)) from by simp [askR], getD_at l0]
      ((conv => whnf); repeat' ((first | (with_reducible first | apply a_ | apply b_ | apply c_) | ((with_reducible first | apply d_ | apply e_ | apply f_ | apply g_); focus first | omega | (simp only [q_] <;> omega)) | ((with_reducible first | apply i_ | apply h_); focus first | omega | (simp only [q_] <;> omega)) | ((with_reducible apply h_); focus first | decide | kernel_rfl) | refine BCase.t (by decide) ?_ | refine BCase.f (by decide) ?_ | (refine Idx.mapI 0 rfl l0 ?_) | refine CallP.pure _ rfl _ (pI) ?_ | with_reducible first | apply l_ | apply m_ | apply n_ | apply o_ | refine p_ (fun _ => ?_) (fun _ => ?_)) <;> (conv => whnf)))
      all_goals exact Ret.int rfl
    · rw [show askR 23 k = tNot (rIn (k.getD 0 noV) (k.drop 1)) from by simp [askR], getD_at l0]
      ((conv => whnf); repeat' ((first | (with_reducible first | apply a_ | apply b_ | apply c_) | ((with_reducible first | apply d_ | apply e_ | apply f_ | apply g_); focus first | omega | (simp only [q_] <;> omega)) | ((with_reducible first | apply i_ | apply h_); focus first | omega | (simp only [q_] <;> omega)) | ((with_reducible apply h_); focus first | decide | kernel_rfl) | refine BCase.t (by decide) ?_ | refine BCase.f (by decide) ?_ | (refine Idx.mapI 0 rfl l0 ?_) | refine CallP.pure _ rfl _ (pI) ?_ | refine CallP.pure _ rfl _ (nI) ?_ | with_reducible first | apply l_ | apply m_ | apply n_ | apply o_ | refine p_ (fun _ => ?_) (fun _ => ?_)) <;> (conv => whnf)))
      all_goals exact Ret.int rfl
    · have l2 : 2 < k.length := by have : leastK 24 = 3 := rfl; omega
      have pB := p_betweenof k[0] k[1] k[2] t0 t1 (rv_text (hk _ (List.getElem_mem l2)))
      rw [show askR 24 k = (rBetween (k.getD 0 noV) (k.getD 1 noV) (k.getD 2 noV)) from by simp [askR], getD_at l0, getD_at l1, getD_at l2]
      ((conv => whnf); repeat' ((first | (with_reducible first | apply a_ | apply b_ | apply c_) | ((with_reducible first | apply d_ | apply e_ | apply f_ | apply g_); focus first | omega | (simp only [q_] <;> omega)) | ((with_reducible first | apply i_ | apply h_); focus first | omega | (simp only [q_] <;> omega)) | ((with_reducible apply h_); focus first | decide | kernel_rfl) | refine BCase.t (by decide) ?_ | refine BCase.f (by decide) ?_ | (refine Idx.mapI 0 rfl l0 ?_) | (refine Idx.mapI 1 rfl l1 ?_) | (refine Idx.mapI 2 rfl l2 ?_) | refine CallP.pure _ rfl _ (pB) ?_ | with_reducible first | apply l_ | apply m_ | apply n_ | apply o_ | refine p_ (fun _ => ?_) (fun _ => ?_)) <;> (conv => whnf)))
      all_goals exact Ret.int rfl
    · have l2 : 2 < k.length := by have : leastK 25 = 3 := rfl; omega
      have pB := p_betweenof k[0] k[1] k[2] t0 t1 (rv_text (hk _ (List.getElem_mem l2)))
      have nB := p_truthnot (rBetween k[0] k[1] k[2])
      rw [show askR 25 k = tNot (rBetween (k.getD 0 noV) (k.getD 1 noV) (k.getD 2 noV)) from by simp [askR], getD_at l0, getD_at l1, getD_at l2]
      ((conv => whnf); repeat' ((first | (with_reducible first | apply a_ | apply b_ | apply c_) | ((with_reducible first | apply d_ | apply e_ | apply f_ | apply g_); focus first | omega | (simp only [q_] <;> omega)) | ((with_reducible first | apply i_ | apply h_); focus first | omega | (simp only [q_] <;> omega)) | ((with_reducible apply h_); focus first | decide | kernel_rfl) | refine BCase.t (by decide) ?_ | refine BCase.f (by decide) ?_ | (refine Idx.mapI 0 rfl l0 ?_) | (refine Idx.mapI 1 rfl l1 ?_) | (refine Idx.mapI 2 rfl l2 ?_) | refine CallP.pure _ rfl _ (pB) ?_ | refine CallP.pure _ rfl _ (nB) ?_ | with_reducible first | apply l_ | apply m_ | apply n_ | apply o_ | refine p_ (fun _ => ?_) (fun _ => ?_)) <;> (conv => whnf)))
      all_goals exact Ret.int rfl
end Go.Proofs.YtggdfnjomonbkaaGreatDoor.Pm
end
section
namespace Go.Proofs.YtggdfnjomonbkaaGreatDoor.Pm
open Go.RowKit K
set_option linter.unusedVariables false
set_option linter.unusedSimpArgs false
set_option maxRecDepth 100000
def nK (q : Int) (k : List ValueD) : Nat := k.countP fun v => decide (v.Kind = q)
theorem nK_snoc (q : Int) {k : List ValueD} {j : Nat} (h : j < k.length) : nK q (k.take (j + 1)) = nK q (k.take j) + if k[j].Kind = q then 1 else 0 := by
  unfold nK
  rw [take_snoc h, List.countP_append, List.countP_singleton]
  by_cases e : k[j].Kind = q
  · rw [decide_eq_true e, if_pos e]; rfl
  · rw [decide_eq_false e, if_neg e]; rfl
theorem nK_le (q : Int) (k : List ValueD) : nK q k ≤ k.length := List.countP_le_length
theorem nK_none {q : Int} {k : List ValueD} : nK q k = 0 ↔ ∀ v ∈ k, v.Kind ≠ q := by
  unfold nK
  rw [List.countP_eq_zero]
  simp
theorem any_isN (k : List ValueD) : k.any isN = decide (0 < nK 0 k) := by
  rw [Bool.eq_iff_iff, decide_eq_true_iff, List.any_eq_true]
  constructor
  · rintro ⟨v, hv, h⟩
    have h := of_decide_eq_true h
    have := nK_none (q := 0) (k := k)
    rcases Nat.eq_zero_or_pos (nK 0 k) with e | e
    · exact absurd h (this.1 e v hv)
    · exact e
  · intro h
    unfold nK at h
    rw [List.countP_pos_iff] at h
    exact h
theorem any_two (p : ValueD → Bool) (a b : Int) (hp : ∀ v, p v = decide (v.Kind = a ∨ v.Kind = b)) (k : List ValueD) : k.any p = decide (0 < nK a k + nK b k) := by
  rw [Bool.eq_iff_iff, decide_eq_true_iff, List.any_eq_true]
  have ha := nK_none (q := a) (k := k)
  have hb := nK_none (q := b) (k := k)
  constructor
  · rintro ⟨v, hv, h⟩
    rw [hp] at h
    rcases of_decide_eq_true h with e | e
    · rcases Nat.eq_zero_or_pos (nK a k) with g | g
      · exact absurd e (ha.1 g v hv)
      · omega
    · rcases Nat.eq_zero_or_pos (nK b k) with g | g
      · exact absurd e (hb.1 g v hv)
      · omega
  · intro h
    rcases Nat.eq_zero_or_pos (nK a k) with g | g
    · have : 0 < nK b k := by omega
      unfold nK at this
      rw [List.countP_pos_iff] at this
      obtain ⟨v, hv, e⟩ := this
      exact ⟨v, hv, by rw [hp]; exact decide_eq_true (.inr (of_decide_eq_true e))⟩
    · have g : 0 < nK a k := g
      unfold nK at g
      rw [List.countP_pos_iff] at g
      obtain ⟨v, hv, e⟩ := g
      exact ⟨v, hv, by rw [hp]; exact decide_eq_true (.inl (of_decide_eq_true e))⟩
set_option maxHeartbeats 2000000 in
theorem p_nodeof (cols : List (List UInt8)) (row : List ValueD) (hc : cols.length = row.length) (hcl : cols.length ≤ 1000000) (n : NodeD) (k : List ValueD) (hn : alF n = 0) (hl : (k.length : Int) = n.Kids) (hk : ∀ v ∈ k, RV v) :
    Pure Tryz.prog 48 [nV n, slV 3 ValueD.c k, slV 1 eText cols, slV 3 ValueD.c row] (.tup [vV (nodR (lookC cols row) n k).1, pInt .i64 (nodR (lookC cols row) n k).2]) := by
  obtain ⟨h1, h2, h3, h4, h5, h6⟩ := alF_kids hn
  refine pure_of Tryz.func48 (by rfl) rfl (by kernel_rfl) (by rfl) ?_
  unfold nodR
  by_cases g1 : n.Op = 1
  · rw [if_pos g1]
    ((conv => whnf); repeat' ((first | (with_reducible first | apply a_ | apply b_ | apply c_) | ((with_reducible first | apply d_ | apply e_ | apply f_ | apply g_); focus first | omega | (simp only [q_] <;> omega)) | ((with_reducible first | apply i_ | apply h_); focus first | omega | (simp only [q_] <;> omega)) | ((with_reducible apply h_); focus first | decide | kernel_rfl) | refine BCase.t (by decide) ?_ | refine BCase.f (by decide) ?_ | with_reducible first | apply l_ | apply m_ | apply n_ | apply o_ | refine p_ (fun _ => ?_) (fun _ => ?_)) <;> (conv => whnf)))
    exact Ret.eq rfl
  rw [if_neg g1]
  by_cases g2 : n.Op = 2
  · rw [if_pos g2]
    ((conv => whnf); repeat' ((first | (with_reducible first | apply a_ | apply b_ | apply c_) | ((with_reducible first | apply d_ | apply e_ | apply f_ | apply g_); focus first | omega | (simp only [q_] <;> omega)) | ((with_reducible first | apply i_ | apply h_); focus first | omega | (simp only [q_] <;> omega)) | ((with_reducible apply h_); focus first | decide | kernel_rfl) | refine BCase.t (by decide) ?_ | refine BCase.f (by decide) ?_ | with_reducible first | apply l_ | apply m_ | apply n_ | apply o_ | refine p_ (fun _ => ?_) (fun _ => ?_)) <;> (conv => whnf)))
    refine LoopC.mk Nat (fun j => [(2, slV 1 eText cols), (3, slV 3 ValueD.c row), (4, .d (.ptr 4 0)), (8, .d (.ptr 8 0)), (10, pInt .i64 j)]) (fun _ => [(4, .box 37 (n.c.map D.c)), (8, .box 26 vZ)]) [4, 8] (fun j => j ≤ cols.length ∧ lookC cols row n.Name = lookC (cols.drop j) (row.drop j) n.Name) (fun j => cols.length - j) 0 ⟨Nat.zero_le _, rfl⟩ ?start ?round
    case start => exact ⟨[(4, 4), (8, 8)], rfl, rfl, ⟨.inl rfl, .inl rfl, ⟨rfl, rfl, rfl⟩, ⟨rfl, rfl, rfl⟩, .inl rfl, trivial⟩, ⟨rfl, rfl, ⟨.inl rfl, .inl rfl, .inl rfl, .inl rfl, .inl rfl, .inl rfl, rfl⟩⟩, ⟨rfl, rfl, ⟨.inl rfl, .inl rfl, .inl rfl, rfl⟩⟩, trivial⟩
    case round =>
      rintro j ⟨hj, hz⟩
      have hj : j ≤ cols.length := hj
      by_cases q : j < cols.length
      · have q2 : j < row.length := by omega
        rw [List.drop_eq_getElem_cons q, List.drop_eq_getElem_cons q2, lookC] at hz
        by_cases e : n.Name = cols[j]
        · rw [if_pos e] at hz
          have e2 : tx cols[j] = tx n.Name := by rw [e]
          rw [hz]
          ((conv => whnf); repeat' ((first | (with_reducible first | apply a_ | apply b_ | apply c_) | ((with_reducible first | apply d_ | apply e_ | apply f_ | apply g_); focus first | omega | (simp only [q_] <;> omega)) | ((with_reducible first | apply i_ | apply h_); focus first | omega | (simp only [q_] <;> omega)) | ((with_reducible apply h_); focus first | decide | kernel_rfl) | refine BCase.t (by decide) ?_ | refine BCase.f (by decide) ?_ | (refine Idx.mapI (l := cols) j rfl q ?_) | (refine Idx.mapI (l := row) j rfl q2 ?_) | (refine BCase.dt e2 ?_) | with_reducible first | apply l_ | apply m_ | apply n_ | apply o_ | refine p_ (fun _ => ?_) (fun _ => ?_)) <;> (conv => whnf)))
          all_goals exact Ret.eq rfl
        · rw [if_neg e] at hz
          have e2 : ¬ tx cols[j] = tx n.Name := fun x => e (tx_inj x).symm
          ((conv => whnf); repeat' ((first | (with_reducible first | apply a_ | apply b_ | apply c_) | ((with_reducible first | apply d_ | apply e_ | apply f_ | apply g_); focus first | omega | (simp only [q_] <;> omega)) | ((with_reducible first | apply i_ | apply h_); focus first | omega | (simp only [q_] <;> omega)) | ((with_reducible apply h_); focus first | decide | kernel_rfl) | refine BCase.t (by decide) ?_ | refine BCase.f (by decide) ?_ | (refine Idx.mapI (l := cols) j rfl q ?_) | (refine BCase.df e2 ?_) | with_reducible first | apply l_ | apply m_ | apply n_ | apply o_ | refine p_ (fun _ => ?_) (fun _ => ?_)) <;> (conv => whnf)))
          all_goals exact ⟨j + 1, ⟨by omega, hz⟩, by omega, [(4, 4), (8, 8)], rfl, rfl, ⟨.inl rfl, .inl rfl, ⟨rfl, rfl, rfl⟩, ⟨rfl, rfl, rfl⟩, PLe.int (by omega), trivial⟩, ⟨rfl, rfl, ⟨.inl rfl, .inl rfl, .inl rfl, .inl rfl, .inl rfl, .inl rfl, rfl⟩⟩, ⟨rfl, rfl, ⟨.inl rfl, .inl rfl, .inl rfl, rfl⟩⟩, trivial⟩
      · have hz : lookC cols row n.Name = none := by rw [hz, List.drop_of_length_le (by omega)]; cases row.drop j <;> rfl
        rw [hz]
        ((conv => whnf); repeat' ((first | (with_reducible first | apply a_ | apply b_ | apply c_) | ((with_reducible first | apply d_ | apply e_ | apply f_ | apply g_); focus first | omega | (simp only [q_] <;> omega)) | ((with_reducible first | apply i_ | apply h_); focus first | omega | (simp only [q_] <;> omega)) | ((with_reducible apply h_); focus first | decide | kernel_rfl) | refine BCase.t (by decide) ?_ | refine BCase.f (by decide) ?_ | with_reducible first | apply l_ | apply m_ | apply n_ | apply o_ | refine p_ (fun _ => ?_) (fun _ => ?_)) <;> (conv => whnf)))
        exact Ret.eq rfl
  rw [if_neg g2]
  have l0 : 0 < k.length := by
    have : leastK n.Op = 1 ∨ leastK n.Op = 2 ∨ leastK n.Op = 3 := by unfold leastK; (repeat' split) <;> omega
    omega
  ((conv => whnf); repeat' ((first | (with_reducible first | apply a_ | apply b_ | apply c_) | ((with_reducible first | apply d_ | apply e_ | apply f_ | apply g_); focus first | omega | (simp only [q_] <;> omega)) | ((with_reducible first | apply i_ | apply h_); focus first | omega | (simp only [q_] <;> omega)) | ((with_reducible apply h_); focus first | decide | kernel_rfl) | refine BCase.t (by decide) ?_ | refine BCase.f (by decide) ?_ | with_reducible first | apply l_ | apply m_ | apply n_ | apply o_ | refine p_ (fun _ => ?_) (fun _ => ?_)) <;> (conv => whnf)))
  refine LoopC.mk Nat (fun j => [(1, slV 3 ValueD.c k), (4, .d (.ptr 4 0)), (8, .d (.ptr 8 0)), (11, pInt .i64 (nK 0 (k.take j))), (12, pInt .i64 (nK 2 (k.take j))), (13, pInt .i64 (nK 1 (k.take j))), (14, pInt .i64 (nK 3 (k.take j))), (15, pInt .i64 j)]) (fun _ => [(4, .box 37 (n.c.map D.c)), (8, .box 26 vZ)]) [4, 8] (fun j => j ≤ k.length) (fun j => k.length - j) 0 (Nat.zero_le _) ?start ?round
  case start => exact ⟨[(4, 4), (8, 8)], rfl, rfl, ⟨.inl rfl, ⟨rfl, rfl, rfl⟩, ⟨rfl, rfl, rfl⟩, PLe.int rfl, PLe.int rfl, PLe.int rfl, PLe.int rfl, .inl rfl, trivial⟩, ⟨rfl, rfl, ⟨.inl rfl, .inl rfl, .inl rfl, .inl rfl, .inl rfl, .inl rfl, rfl⟩⟩, ⟨rfl, rfl, ⟨.inl rfl, .inl rfl, .inl rfl, rfl⟩⟩, trivial⟩
  case round =>
    intro j hj
    have hj : j ≤ k.length := hj
    by_cases q : j < k.length
    · have q0 := nK_snoc 0 q
      have q1 := nK_snoc 1 q
      have q2 := nK_snoc 2 q
      have q3 := nK_snoc 3 q
      have hkd := okV_kind (hk _ (List.getElem_mem q)).1
      have hkd : k[j].Kind = 0 ∨ k[j].Kind = 1 ∨ k[j].Kind = 2 ∨ k[j].Kind = 3 := by omega
      have b0 := nK_le 0 (k.take j)
      have b1 := nK_le 1 (k.take j)
      have b2 := nK_le 2 (k.take j)
      have b3 := nK_le 3 (k.take j)
      rw [List.length_take] at b0 b1 b2 b3
      rcases hkd with e | e | e | e <;> rw [e] at q0 q1 q2 q3
      all_goals
        ((conv => whnf); repeat' ((first | (with_reducible first | apply a_ | apply b_ | apply c_) | ((with_reducible first | apply d_ | apply e_ | apply f_ | apply g_); focus first | omega | (simp only [q_] <;> omega)) | ((with_reducible first | apply i_ | apply h_); focus first | omega | (simp only [q_] <;> omega)) | ((with_reducible apply h_); focus first | decide | kernel_rfl) | refine BCase.t (by decide) ?_ | refine BCase.f (by decide) ?_ | (refine Idx.mapI j rfl q ?_) | with_reducible first | apply l_ | apply m_ | apply n_ | apply o_ | refine p_ (fun _ => ?_) (fun _ => ?_)) <;> (conv => whnf)))
        exact ⟨j + 1, by show j + 1 ≤ _; omega, by omega, [(4, 4), (8, 8)], rfl, rfl, ⟨.inl rfl, ⟨rfl, rfl, rfl⟩, ⟨rfl, rfl, rfl⟩, PLe.int (by rw [q0]; rfl), PLe.int (by rw [q2]; rfl), PLe.int (by rw [q1]; rfl), PLe.int (by rw [q3]; rfl), PLe.int (by omega), trivial⟩, ⟨rfl, rfl, ⟨.inl rfl, .inl rfl, .inl rfl, .inl rfl, .inl rfl, .inl rfl, rfl⟩⟩, ⟨rfl, rfl, ⟨.inl rfl, .inl rfl, .inl rfl, rfl⟩⟩, trivial⟩
    · rw [List.take_of_length_le (by omega)]
      have aN := any_isN k
      have aT := any_two isTB 2 3 (fun _ => rfl) k
      have aI := any_two isIB 1 3 (fun _ => rfl) k
      have b0 := nK_le 0 k
      have b1 := nK_le 1 k
      have b2 := nK_le 2 k
      have b3 := nK_le 3 k
      obtain ⟨c0, e0⟩ : ∃ c, c = nK 0 k := ⟨_, rfl⟩
      obtain ⟨c1, e1⟩ : ∃ c, c = nK 1 k := ⟨_, rfl⟩
      obtain ⟨c2, e2⟩ : ∃ c, c = nK 2 k := ⟨_, rfl⟩
      obtain ⟨c3, e3⟩ : ∃ c, c = nK 3 k := ⟨_, rfl⟩
      rw [← e0] at aN b0
      rw [← e2, ← e3] at aT
      rw [← e1, ← e3] at aI
      rw [← e1] at b1
      rw [← e2] at b2
      rw [← e3] at b3
      rw [← e0, ← e1, ← e2, ← e3]
      have l1 : k.length - 1 < k.length := by omega
      by_cases g3 : n.Op = 3 ∨ (5 ≤ n.Op ∧ n.Op ≤ 9)
      · rw [if_pos g3]
        have q0 : k.headD noV = k[0] := by cases k with
          | nil => simp at l0
          | cons x k => rfl
        have q1 : k.getLastD noV = k[k.length - 1] := by
          rw [List.getLastD_eq_getLast?, List.getLast?_eq_getElem?, List.getElem?_eq_getElem l1]; rfl
        have ei : (((k.map ValueD.c).length : Nat) : Int) - 1 = ((k.length - 1 : Nat) : Int) := by rw [List.length_map]; omega
        have pw := p_wholeof n.Op k[0].N k[k.length - 1].N g3 (hk _ (List.getElem_mem _)).2 (hk _ (List.getElem_mem _)).2
        unfold recV
        rw [aT, aN, q0, q1]
        by_cases hT : 0 < c2 + c3
        · rw [decide_eq_true hT, if_pos rfl]
          ((conv => whnf); repeat' ((first | (with_reducible first | apply a_ | apply b_ | apply c_) | ((with_reducible first | apply d_ | apply e_ | apply f_ | apply g_); focus first | omega | (simp only [q_] <;> omega)) | ((with_reducible first | apply i_ | apply h_); focus first | omega | (simp only [q_] <;> omega)) | ((with_reducible apply h_); focus first | decide | kernel_rfl) | refine BCase.t (by decide) ?_ | refine BCase.f (by decide) ?_ | with_reducible first | apply l_ | apply m_ | apply n_ | apply o_ | refine p_ (fun _ => ?_) (fun _ => ?_)) <;> (conv => whnf)))
          all_goals first | exact Ret.eq rfl | (exfalso; omega)
        · rw [decide_eq_false hT, if_neg (by simp)]
          by_cases hN : 0 < c0
          · rw [decide_eq_true hN, if_pos rfl]
            ((conv => whnf); repeat' ((first | (with_reducible first | apply a_ | apply b_ | apply c_) | ((with_reducible first | apply d_ | apply e_ | apply f_ | apply g_); focus first | omega | (simp only [q_] <;> omega)) | ((with_reducible first | apply i_ | apply h_); focus first | omega | (simp only [q_] <;> omega)) | ((with_reducible apply h_); focus first | decide | kernel_rfl) | refine BCase.t (by decide) ?_ | refine BCase.f (by decide) ?_ | with_reducible first | apply l_ | apply m_ | apply n_ | apply o_ | refine p_ (fun _ => ?_) (fun _ => ?_)) <;> (conv => whnf)))
            all_goals first | exact Ret.eq rfl | (exfalso; omega)
          · rw [decide_eq_false hN, if_neg (by simp)]
            by_cases he : (whoF n.Op k[0].N k[k.length - 1].N).2 = 0
            · rw [if_neg (by simp [he])]
              ((conv => whnf); repeat' ((first | (with_reducible first | apply a_ | apply b_ | apply c_) | ((with_reducible first | apply d_ | apply e_ | apply f_ | apply g_); focus first | omega | (simp only [q_] <;> omega)) | ((with_reducible first | apply i_ | apply h_); focus first | omega | (simp only [q_] <;> omega)) | ((with_reducible apply h_); focus first | decide | kernel_rfl) | refine BCase.t (by decide) ?_ | refine BCase.f (by decide) ?_ | (refine Idx.mapI 0 rfl l0 ?_) | (refine Idx.mapI (k.length - 1) ei l1 ?_) | refine CallP.pure _ rfl _ (pw) ?_ | with_reducible first | apply l_ | apply m_ | apply n_ | apply o_ | refine p_ (fun _ => ?_) (fun _ => ?_)) <;> (conv => whnf)))
              all_goals first | exact Ret.eq rfl | (exfalso; omega)
            · rw [if_pos he]
              ((conv => whnf); repeat' ((first | (with_reducible first | apply a_ | apply b_ | apply c_) | ((with_reducible first | apply d_ | apply e_ | apply f_ | apply g_); focus first | omega | (simp only [q_] <;> omega)) | ((with_reducible first | apply i_ | apply h_); focus first | omega | (simp only [q_] <;> omega)) | ((with_reducible apply h_); focus first | decide | kernel_rfl) | refine BCase.t (by decide) ?_ | refine BCase.f (by decide) ?_ | (refine Idx.mapI 0 rfl l0 ?_) | (refine Idx.mapI (k.length - 1) ei l1 ?_) | refine CallP.pure _ rfl _ (pw) ?_ | with_reducible first | apply l_ | apply m_ | apply n_ | apply o_ | refine p_ (fun _ => ?_) (fun _ => ?_)) <;> (conv => whnf)))
              all_goals first | exact Ret.eq rfl | (exfalso; omega)
      rw [if_neg g3]
      by_cases g4 : n.Op = 20 ∨ n.Op = 21
      · rw [if_pos g4]
        have l2 : k.length = 2 := by
          rcases g4 with e | e <;> rw [e] at h3 h4
          · have : leastK 20 = 2 := rfl
            have : mostK 20 = 2 := rfl
            omega
          · have : leastK 21 = 2 := rfl
            have : mostK 21 = 2 := rfl
            omega
        have l3 : 1 < k.length := by omega
        rw [getD_at l0, getD_at l3, aI, aN]
        have pc := p_check (tx k[1].S)
        by_cases hI : 0 < c1 + c3
        · rw [decide_eq_true hI, if_pos rfl]
          ((conv => whnf); repeat' ((first | (with_reducible first | apply a_ | apply b_ | apply c_) | ((with_reducible first | apply d_ | apply e_ | apply f_ | apply g_); focus first | omega | (simp only [q_] <;> omega)) | ((with_reducible first | apply i_ | apply h_); focus first | omega | (simp only [q_] <;> omega)) | ((with_reducible apply h_); focus first | decide | kernel_rfl) | refine BCase.t (by decide) ?_ | refine BCase.f (by decide) ?_ | with_reducible first | apply l_ | apply m_ | apply n_ | apply o_ | refine p_ (fun _ => ?_) (fun _ => ?_)) <;> (conv => whnf)))
          all_goals first | exact Ret.eq rfl | (exfalso; omega)
        · rw [decide_eq_false hI, if_neg (by simp)]
          by_cases hN : 0 < c0
          · rw [decide_eq_true hN, if_pos rfl]
            ((conv => whnf); repeat' ((first | (with_reducible first | apply a_ | apply b_ | apply c_) | ((with_reducible first | apply d_ | apply e_ | apply f_ | apply g_); focus first | omega | (simp only [q_] <;> omega)) | ((with_reducible first | apply i_ | apply h_); focus first | omega | (simp only [q_] <;> omega)) | ((with_reducible apply h_); focus first | decide | kernel_rfl) | refine BCase.t (by decide) ?_ | refine BCase.f (by decide) ?_ | with_reducible first | apply l_ | apply m_ | apply n_ | apply o_ | refine p_ (fun _ => ?_) (fun _ => ?_)) <;> (conv => whnf)))
            all_goals first | exact Ret.eq rfl | (exfalso; omega)
          · rw [decide_eq_false hN, if_neg (by simp)]
            by_cases he : LikeP.patE (tx k[1].S) = 0
            · rw [if_neg (by rw [he]; decide)]
              rw [he] at pc
              have ps := tx_small ((okV_kind (hk _ (List.getElem_mem l0)).1).2.2)
              have pm := p_matchof (tx k[1].S) (tx k[0].S) he (by omega)
              have pt := p_truth (LikeP.matB (tx k[1].S) (tx k[0].S) == decide (n.Op = 20))
              have pv := p_truthvalue _ (isT_of (LikeP.matB (tx k[1].S) (tx k[0].S) == decide (n.Op = 20)))
              ((conv => whnf); repeat' ((first | (with_reducible first | apply a_ | apply b_ | apply c_) | ((with_reducible first | apply d_ | apply e_ | apply f_ | apply g_); focus first | omega | (simp only [q_] <;> omega)) | ((with_reducible first | apply i_ | apply h_); focus first | omega | (simp only [q_] <;> omega)) | ((with_reducible apply h_); focus first | decide | kernel_rfl) | refine BCase.t (by decide) ?_ | refine BCase.f (by decide) ?_ | (refine Idx.mapI 0 rfl l0 ?_) | (refine Idx.mapI 1 rfl l3 ?_) | refine CallP.pure _ rfl _ (pc) ?_ | refine CallP.pure _ rfl _ (pm) ?_ | refine CallP.pure _ rfl _ (pt) ?_ | refine CallP.pure _ rfl _ (pv) ?_ | with_reducible first | apply l_ | apply m_ | apply n_ | apply o_ | refine p_ (fun _ => ?_) (fun _ => ?_)) <;> (conv => whnf)))
              all_goals first | exact Ret.eq rfl | (exfalso; omega)
            · rw [if_pos he]
              ((conv => whnf); repeat' ((first | (with_reducible first | apply a_ | apply b_ | apply c_) | ((with_reducible first | apply d_ | apply e_ | apply f_ | apply g_); focus first | omega | (simp only [q_] <;> omega)) | ((with_reducible first | apply i_ | apply h_); focus first | omega | (simp only [q_] <;> omega)) | ((with_reducible apply h_); focus first | decide | kernel_rfl) | refine BCase.t (by decide) ?_ | refine BCase.f (by decide) ?_ | (refine Idx.mapI 1 rfl l3 ?_) | refine CallP.pure _ rfl _ (pc) ?_ | with_reducible first | apply l_ | apply m_ | apply n_ | apply o_ | refine p_ (fun _ => ?_) (fun _ => ?_)) <;> (conv => whnf)))
              all_goals first | exact Ret.eq rfl | (exfalso; omega)
      rw [if_neg g4]
      by_cases g5 : n.Op = 4 ∨ n.Op = 16 ∨ n.Op = 17
      · rw [if_pos g5, aT]
        by_cases hT : 0 < c2 + c3
        · rw [decide_eq_true hT, if_pos rfl]
          ((conv => whnf); repeat' ((first | (with_reducible first | apply a_ | apply b_ | apply c_) | ((with_reducible first | apply d_ | apply e_ | apply f_ | apply g_); focus first | omega | (simp only [q_] <;> omega)) | ((with_reducible first | apply i_ | apply h_); focus first | omega | (simp only [q_] <;> omega)) | ((with_reducible apply h_); focus first | decide | kernel_rfl) | refine BCase.t (by decide) ?_ | refine BCase.f (by decide) ?_ | with_reducible first | apply l_ | apply m_ | apply n_ | apply o_ | refine p_ (fun _ => ?_) (fun _ => ?_)) <;> (conv => whnf)))
          all_goals first | exact Ret.eq rfl | (exfalso; omega)
        · rw [decide_eq_false hT, if_neg (by simp)]
          obtain ⟨Q, hQ⟩ : ∃ Q, Q = (k.map fun v => (meaV v).1) := ⟨_, rfl⟩
          have eQ : (k.map fun v => (meaV v).1).headD 0 = (k.map fun v => (meaV v).1)[0]'(by rw [List.length_map]; exact l0) := by cases k with
            | nil => simp at l0
            | cons x k => rfl
          have pa := p_truthall (k.map fun v => (meaV v).1) (by rw [List.length_map]; omega)
          have py := p_truthany (k.map fun v => (meaV v).1) (by rw [List.length_map]; omega)
          have pn := p_truthnot ((k.map fun v => (meaV v).1)[0]'(by rw [List.length_map]; exact l0))
          have va := p_truthvalue _ (isT_all (k.map fun v => (meaV v).1))
          have vy := p_truthvalue _ (isT_any (k.map fun v => (meaV v).1))
          have vn := p_truthvalue _ (isT_not ((k.map fun v => (meaV v).1)[0]'(by rw [List.length_map]; exact l0)))
          rcases g5 with e | e | e
          · ((conv => whnf); repeat' ((first | (with_reducible first | apply a_ | apply b_ | apply c_) | ((with_reducible first | apply d_ | apply e_ | apply f_ | apply g_); focus first | omega | (simp only [q_] <;> omega)) | ((with_reducible first | apply i_ | apply h_); focus first | omega | (simp only [q_] <;> omega)) | ((with_reducible apply h_); focus first | decide | kernel_rfl) | refine BCase.t (by decide) ?_ | refine BCase.f (by decide) ?_ | with_reducible first | apply l_ | apply m_ | apply n_ | apply o_ | refine p_ (fun _ => ?_) (fun _ => ?_)) <;> (conv => whnf)))
            refine LoopC.mk Nat (fun j => [(1, slV 3 ValueD.c k), (4, .d (.ptr 4 0)), (8, .d (.ptr 8 0)), (19, .d (.app 60 3 1 (((k.take j).map fun v => (meaV v).1).map eInt))), (20, pInt .i64 j)]) (fun _ => [(4, .box 37 (n.c.map D.c)), (8, .box 26 vZ), (60, .tail 3 1)]) [4, 8, 60] (fun j => j ≤ k.length) (fun j => k.length - j) 0 (Nat.zero_le _) ?s4 ?r4
            case s4 => exact ⟨[(4, 4), (8, 8)], rfl, rfl, ⟨.inl rfl, ⟨rfl, rfl, rfl⟩, ⟨rfl, rfl, rfl⟩, ⟨rfl, rfl, Nat.zero_lt_succ _, rfl, rfl⟩, .inl rfl, trivial⟩, ⟨rfl, rfl, ⟨.inl rfl, .inl rfl, .inl rfl, .inl rfl, .inl rfl, .inl rfl, rfl⟩⟩, ⟨rfl, rfl, ⟨.inl rfl, .inl rfl, .inl rfl, rfl⟩⟩, ⟨rfl, Nat.zero_lt_succ _⟩, trivial⟩
            case r4 =>
              intro j hj
              have hj : j ≤ k.length := hj
              by_cases q : j < k.length
              · have pm := p_truthof k[j] (okV_kind (hk _ (List.getElem_mem q)).1).1
                ((conv => whnf); repeat' ((first | (with_reducible first | apply a_ | apply b_ | apply c_) | ((with_reducible first | apply d_ | apply e_ | apply f_ | apply g_); focus first | omega | (simp only [q_] <;> omega)) | ((with_reducible first | apply i_ | apply h_); focus first | omega | (simp only [q_] <;> omega)) | ((with_reducible apply h_); focus first | decide | kernel_rfl) | refine BCase.t (by decide) ?_ | refine BCase.f (by decide) ?_ | (refine Idx.mapI j rfl q ?_) | refine CallP.pure _ rfl _ (pm) ?_ | (refine Need.by 8 rfl (by simp only [List.length_map, List.length_take, List.length_singleton]; omega) ?_) | with_reducible first | apply l_ | apply m_ | apply n_ | apply o_ | refine p_ (fun _ => ?_) (fun _ => ?_)) <;> (conv => whnf)))
                exact ⟨j + 1, by show j + 1 ≤ _; omega, by omega, [(4, 4), (8, 8), (60, 200)], rfl, rfl, ⟨.inl rfl, ⟨rfl, rfl, rfl⟩, ⟨rfl, rfl, rfl⟩, ⟨rfl, rfl, rfl, rfl, by rw [take_snoc q, List.map_append, List.map_append]; rfl⟩, PLe.int (by omega), trivial⟩, ⟨rfl, rfl, ⟨.inl rfl, .inl rfl, .inl rfl, .inl rfl, .inl rfl, .inl rfl, rfl⟩⟩, ⟨rfl, rfl, ⟨.inl rfl, .inl rfl, .inl rfl, rfl⟩⟩, ⟨rfl, rfl, rfl⟩, trivial⟩
              · rw [List.take_of_length_le (by omega)]
                rw [if_pos e, eQ]
                ((conv => whnf); repeat' ((first | (with_reducible first | apply a_ | apply b_ | apply c_) | ((with_reducible first | apply d_ | apply e_ | apply f_ | apply g_); focus first | omega | (simp only [q_] <;> omega)) | ((with_reducible first | apply i_ | apply h_); focus first | omega | (simp only [q_] <;> omega)) | ((with_reducible apply h_); focus first | decide | kernel_rfl) | refine BCase.t (by decide) ?_ | refine BCase.f (by decide) ?_ | (refine Idx.mapI 0 rfl (by rw [List.length_map]; exact l0) ?_) | refine CallP.pure _ rfl _ (pn) ?_ | refine CallP.pure _ rfl _ (vn) ?_ | with_reducible first | apply l_ | apply m_ | apply n_ | apply o_ | refine p_ (fun _ => ?_) (fun _ => ?_)) <;> (conv => whnf)))
                all_goals first | exact Ret.eq rfl | (exfalso; omega)
          · ((conv => whnf); repeat' ((first | (with_reducible first | apply a_ | apply b_ | apply c_) | ((with_reducible first | apply d_ | apply e_ | apply f_ | apply g_); focus first | omega | (simp only [q_] <;> omega)) | ((with_reducible first | apply i_ | apply h_); focus first | omega | (simp only [q_] <;> omega)) | ((with_reducible apply h_); focus first | decide | kernel_rfl) | refine BCase.t (by decide) ?_ | refine BCase.f (by decide) ?_ | with_reducible first | apply l_ | apply m_ | apply n_ | apply o_ | refine p_ (fun _ => ?_) (fun _ => ?_)) <;> (conv => whnf)))
            refine LoopC.mk Nat (fun j => [(1, slV 3 ValueD.c k), (4, .d (.ptr 4 0)), (8, .d (.ptr 8 0)), (19, .d (.app 60 3 1 (((k.take j).map fun v => (meaV v).1).map eInt))), (20, pInt .i64 j)]) (fun _ => [(4, .box 37 (n.c.map D.c)), (8, .box 26 vZ), (60, .tail 3 1)]) [4, 8, 60] (fun j => j ≤ k.length) (fun j => k.length - j) 0 (Nat.zero_le _) ?s16 ?r16
            case s16 => exact ⟨[(4, 4), (8, 8)], rfl, rfl, ⟨.inl rfl, ⟨rfl, rfl, rfl⟩, ⟨rfl, rfl, rfl⟩, ⟨rfl, rfl, Nat.zero_lt_succ _, rfl, rfl⟩, .inl rfl, trivial⟩, ⟨rfl, rfl, ⟨.inl rfl, .inl rfl, .inl rfl, .inl rfl, .inl rfl, .inl rfl, rfl⟩⟩, ⟨rfl, rfl, ⟨.inl rfl, .inl rfl, .inl rfl, rfl⟩⟩, ⟨rfl, Nat.zero_lt_succ _⟩, trivial⟩
            case r16 =>
              intro j hj
              have hj : j ≤ k.length := hj
              by_cases q : j < k.length
              · have pm := p_truthof k[j] (okV_kind (hk _ (List.getElem_mem q)).1).1
                ((conv => whnf); repeat' ((first | (with_reducible first | apply a_ | apply b_ | apply c_) | ((with_reducible first | apply d_ | apply e_ | apply f_ | apply g_); focus first | omega | (simp only [q_] <;> omega)) | ((with_reducible first | apply i_ | apply h_); focus first | omega | (simp only [q_] <;> omega)) | ((with_reducible apply h_); focus first | decide | kernel_rfl) | refine BCase.t (by decide) ?_ | refine BCase.f (by decide) ?_ | (refine Idx.mapI j rfl q ?_) | refine CallP.pure _ rfl _ (pm) ?_ | (refine Need.by 8 rfl (by simp only [List.length_map, List.length_take, List.length_singleton]; omega) ?_) | with_reducible first | apply l_ | apply m_ | apply n_ | apply o_ | refine p_ (fun _ => ?_) (fun _ => ?_)) <;> (conv => whnf)))
                exact ⟨j + 1, by show j + 1 ≤ _; omega, by omega, [(4, 4), (8, 8), (60, 200)], rfl, rfl, ⟨.inl rfl, ⟨rfl, rfl, rfl⟩, ⟨rfl, rfl, rfl⟩, ⟨rfl, rfl, rfl, rfl, by rw [take_snoc q, List.map_append, List.map_append]; rfl⟩, PLe.int (by omega), trivial⟩, ⟨rfl, rfl, ⟨.inl rfl, .inl rfl, .inl rfl, .inl rfl, .inl rfl, .inl rfl, rfl⟩⟩, ⟨rfl, rfl, ⟨.inl rfl, .inl rfl, .inl rfl, rfl⟩⟩, ⟨rfl, rfl, rfl⟩, trivial⟩
              · rw [List.take_of_length_le (by omega)]
                rw [if_neg (by omega), if_pos e]
                ((conv => whnf); repeat' ((first | (with_reducible first | apply a_ | apply b_ | apply c_) | ((with_reducible first | apply d_ | apply e_ | apply f_ | apply g_); focus first | omega | (simp only [q_] <;> omega)) | ((with_reducible first | apply i_ | apply h_); focus first | omega | (simp only [q_] <;> omega)) | ((with_reducible apply h_); focus first | decide | kernel_rfl) | refine BCase.t (by decide) ?_ | refine BCase.f (by decide) ?_ | refine CallP.pure _ rfl _ (pa) ?_ | refine CallP.pure _ rfl _ (va) ?_ | with_reducible first | apply l_ | apply m_ | apply n_ | apply o_ | refine p_ (fun _ => ?_) (fun _ => ?_)) <;> (conv => whnf)))
                all_goals first | exact Ret.eq rfl | (exfalso; omega)
          · ((conv => whnf); repeat' ((first | (with_reducible first | apply a_ | apply b_ | apply c_) | ((with_reducible first | apply d_ | apply e_ | apply f_ | apply g_); focus first | omega | (simp only [q_] <;> omega)) | ((with_reducible first | apply i_ | apply h_); focus first | omega | (simp only [q_] <;> omega)) | ((with_reducible apply h_); focus first | decide | kernel_rfl) | refine BCase.t (by decide) ?_ | refine BCase.f (by decide) ?_ | with_reducible first | apply l_ | apply m_ | apply n_ | apply o_ | refine p_ (fun _ => ?_) (fun _ => ?_)) <;> (conv => whnf)))
            refine LoopC.mk Nat (fun j => [(1, slV 3 ValueD.c k), (4, .d (.ptr 4 0)), (8, .d (.ptr 8 0)), (19, .d (.app 60 3 1 (((k.take j).map fun v => (meaV v).1).map eInt))), (20, pInt .i64 j)]) (fun _ => [(4, .box 37 (n.c.map D.c)), (8, .box 26 vZ), (60, .tail 3 1)]) [4, 8, 60] (fun j => j ≤ k.length) (fun j => k.length - j) 0 (Nat.zero_le _) ?s17 ?r17
            case s17 => exact ⟨[(4, 4), (8, 8)], rfl, rfl, ⟨.inl rfl, ⟨rfl, rfl, rfl⟩, ⟨rfl, rfl, rfl⟩, ⟨rfl, rfl, Nat.zero_lt_succ _, rfl, rfl⟩, .inl rfl, trivial⟩, ⟨rfl, rfl, ⟨.inl rfl, .inl rfl, .inl rfl, .inl rfl, .inl rfl, .inl rfl, rfl⟩⟩, ⟨rfl, rfl, ⟨.inl rfl, .inl rfl, .inl rfl, rfl⟩⟩, ⟨rfl, Nat.zero_lt_succ _⟩, trivial⟩
            case r17 =>
              intro j hj
              have hj : j ≤ k.length := hj
              by_cases q : j < k.length
              · have pm := p_truthof k[j] (okV_kind (hk _ (List.getElem_mem q)).1).1
                ((conv => whnf); repeat' ((first | (with_reducible first | apply a_ | apply b_ | apply c_) | ((with_reducible first | apply d_ | apply e_ | apply f_ | apply g_); focus first | omega | (simp only [q_] <;> omega)) | ((with_reducible first | apply i_ | apply h_); focus first | omega | (simp only [q_] <;> omega)) | ((with_reducible apply h_); focus first | decide | kernel_rfl) | refine BCase.t (by decide) ?_ | refine BCase.f (by decide) ?_ | (refine Idx.mapI j rfl q ?_) | refine CallP.pure _ rfl _ (pm) ?_ | (refine Need.by 8 rfl (by simp only [List.length_map, List.length_take, List.length_singleton]; omega) ?_) | with_reducible first | apply l_ | apply m_ | apply n_ | apply o_ | refine p_ (fun _ => ?_) (fun _ => ?_)) <;> (conv => whnf)))
                exact ⟨j + 1, by show j + 1 ≤ _; omega, by omega, [(4, 4), (8, 8), (60, 200)], rfl, rfl, ⟨.inl rfl, ⟨rfl, rfl, rfl⟩, ⟨rfl, rfl, rfl⟩, ⟨rfl, rfl, rfl, rfl, by rw [take_snoc q, List.map_append, List.map_append]; rfl⟩, PLe.int (by omega), trivial⟩, ⟨rfl, rfl, ⟨.inl rfl, .inl rfl, .inl rfl, .inl rfl, .inl rfl, .inl rfl, rfl⟩⟩, ⟨rfl, rfl, ⟨.inl rfl, .inl rfl, .inl rfl, rfl⟩⟩, ⟨rfl, rfl, rfl⟩, trivial⟩
              · rw [List.take_of_length_le (by omega)]
                rw [if_neg (by omega), if_neg (by omega)]
                ((conv => whnf); repeat' ((first | (with_reducible first | apply a_ | apply b_ | apply c_) | ((with_reducible first | apply d_ | apply e_ | apply f_ | apply g_); focus first | omega | (simp only [q_] <;> omega)) | ((with_reducible first | apply i_ | apply h_); focus first | omega | (simp only [q_] <;> omega)) | ((with_reducible apply h_); focus first | decide | kernel_rfl) | refine BCase.t (by decide) ?_ | refine BCase.f (by decide) ?_ | refine CallP.pure _ rfl _ (py) ?_ | refine CallP.pure _ rfl _ (vy) ?_ | with_reducible first | apply l_ | apply m_ | apply n_ | apply o_ | refine p_ (fun _ => ?_) (fun _ => ?_)) <;> (conv => whnf)))
                all_goals first | exact Ret.eq rfl | (exfalso; omega)
      rw [if_neg g5]
      have pq := p_askof n.Op k (by omega) (by omega) hk (by omega)
      have ht : IsT (askR n.Op k) := by
        unfold askR
        (repeat' split) <;> first | exact isT_same _ _ | exact isT_not _ | exact isT_less _ _ | exact isT_of _ | exact isT_any _ | exact isT_and _ _
      have pv := p_truthvalue _ ht
      ((conv => whnf); repeat' ((first | (with_reducible first | apply a_ | apply b_ | apply c_) | ((with_reducible first | apply d_ | apply e_ | apply f_ | apply g_); focus first | omega | (simp only [q_] <;> omega)) | ((with_reducible first | apply i_ | apply h_); focus first | omega | (simp only [q_] <;> omega)) | ((with_reducible apply h_); focus first | decide | kernel_rfl) | refine BCase.t (by decide) ?_ | refine BCase.f (by decide) ?_ | refine CallP.pure _ rfl _ (pq) ?_ | refine CallP.pure _ rfl _ (pv) ?_ | with_reducible first | apply l_ | apply m_ | apply n_ | apply o_ | refine p_ (fun _ => ?_) (fun _ => ?_)) <;> (conv => whnf)))
      all_goals first | exact Ret.eq rfl | (exfalso; omega)
end Go.Proofs.YtggdfnjomonbkaaGreatDoor.Pm
end
section
namespace Go.Proofs.YtggdfnjomonbkaaGreatDoor.Pm
open Go.RowKit K
set_option linter.unusedVariables false
set_option linter.unusedSimpArgs false
set_option maxRecDepth 100000
theorem flat_le_flats : ∀ {l : List Ex} {t : Ex}, t ∈ l → t.flat.length ≤ (Ex.flats l).length
  | [], _, h => by cases h
  | x :: l, t, h => by
    rw [Ex.flats, List.length_append]
    rcases List.mem_cons.1 h with rfl | h
    · omega
    · have := flat_le_flats h; omega
theorem len_le_flats : ∀ (l : List Ex), l.length ≤ (Ex.flats l).length
  | [] => Nat.zero_le _
  | x :: l => by
    rw [Ex.flats, List.length_append, List.length_cons]
    have := x.flat_pos
    have := len_le_flats l
    omega
theorem flats_snoc {ks : List Ex} {i : Nat} (h : i < ks.length) : Ex.flats (ks.take (i + 1)) = Ex.flats (ks.take i) ++ ks[i].flat := by
  rw [take_snoc h, Ex.flats_append, Ex.flats_one]
theorem flats_part {ks : List Ex} {i : Nat} (h : i < ks.length) : Ex.flats ks = Ex.flats (ks.take i) ++ ks[i].flat ++ Ex.flats (ks.drop (i + 1)) := by
  rw [← flats_snoc h, ← Ex.flats_append, List.take_append_drop]
theorem root_at {n : NodeD} {ks : List Ex} {e pre post : List NodeD} (he : e = pre ++ (Ex.mk n ks).flat ++ post) : e = (pre ++ Ex.flats ks) ++ n :: post := by
  rw [he, Ex.flat]; simp
theorem root_get {n : NodeD} {a b e : List NodeD} (he : e = a ++ n :: b) : ∃ h : a.length < e.length, e[a.length] = n := by
  subst he
  exact ⟨by simp, by simp⟩
theorem p_exprbegin : ∀ (N : Nat) (t : Ex), t.flat.length ≤ N → t.good → ∀ (e pre post : List NodeD), e = pre ++ t.flat ++ post → e.length ≤ 1000000 → Pure Tryz.prog 59 [slV 6 NodeD.c e, pInt .i64 ((pre.length + t.flat.length : Nat) : Int)] (pInt .i64 pre.length)
  | 0, t, hN, hg, e, pre, post, he, hl => by have := t.flat_pos; omega
  | N + 1, .mk n ks, hN, hg, e, pre, post, he, hl => by
    rw [Ex.good] at hg
    obtain ⟨hk, hgs⟩ := hg
    have hlen : (Ex.mk n ks).flat.length = (Ex.flats ks).length + 1 := by rw [Ex.flat, List.length_append, List.length_singleton]
    have he2 := root_at he
    obtain ⟨hr1, hr2⟩ := root_get he2
    have hpl : (pre ++ Ex.flats ks).length = pre.length + (Ex.flats ks).length := List.length_append
    rw [hlen] at hN ⊢
    have hkb := len_le_flats ks
    refine pure_of Tryz.func59 (by rfl) rfl (by kernel_rfl) (by rfl) ?_
    ((conv => whnf); repeat' ((first | (with_reducible first | apply a_ | apply b_ | apply c_) | ((with_reducible first | apply d_ | apply e_ | apply f_ | apply g_); focus first | omega | (simp only [q_] <;> omega)) | ((with_reducible first | apply i_ | apply h_); focus first | omega | (simp only [q_] <;> omega)) | ((with_reducible apply h_); focus first | decide | kernel_rfl) | refine BCase.t (by decide) ?_ | refine BCase.f (by decide) ?_ | with_reducible first | apply l_ | apply m_ | apply n_ | apply o_ | refine p_ (fun _ => ?_) (fun _ => ?_)) <;> (conv => whnf)))
    refine LoopC.mk Nat (fun k => [(0, slV 6 NodeD.c e), (1, pInt .i64 ((pre.length + ((Ex.flats ks).length + 1) : Nat) : Int)), (5, pInt .i64 ((pre.length + (Ex.flats (ks.take (ks.length - k))).length : Nat) : Int)), (6, pInt .i64 k)]) (fun _ => []) [] (fun k => k ≤ ks.length) (fun k => ks.length - k) 0 (Nat.zero_le _) ?start ?round
    case start => exact ⟨[], rfl, rfl, ⟨.inl rfl, .inl rfl, PLe.int (by rw [List.take_of_length_le (by omega)]; omega), .inl rfl, trivial⟩, trivial⟩
    case round =>
      intro k hk2
      have hk2 : k ≤ ks.length := hk2
      by_cases q : k < ks.length
      · have hi : ks.length - (k + 1) < ks.length := by omega
        have hp := flats_part hi
        have hm := List.getElem_mem hi
        have hfl := flat_le_flats hm
        have hs := flats_snoc hi
        rw [show ks.length - (k + 1) + 1 = ks.length - k by omega] at hs hp
        have pb := p_exprbegin N ks[ks.length - (k + 1)] (by omega) (Ex.goods_mem hgs _ hm) e (pre ++ Ex.flats (ks.take (ks.length - (k + 1)))) (Ex.flats (ks.drop (ks.length - k)) ++ n :: post) (by rw [he2, hp]; simp) hl
        have e1 : (pre ++ Ex.flats (ks.take (ks.length - (k + 1)))).length + ks[ks.length - (k + 1)].flat.length = pre.length + (Ex.flats (ks.take (ks.length - k))).length := by rw [hs, List.length_append, List.length_append]; omega
        rw [e1] at pb
        ((conv => whnf); repeat' ((first | (with_reducible first | apply a_ | apply b_ | apply c_) | ((with_reducible first | apply d_ | apply e_ | apply f_ | apply g_); focus first | omega | (simp only [q_] <;> omega)) | ((with_reducible first | apply i_ | apply h_); focus first | omega | (simp only [q_] <;> omega)) | ((with_reducible apply h_); focus first | decide | kernel_rfl) | refine BCase.t (by decide) ?_ | refine BCase.f (by decide) ?_ | (refine Idx.mapE (pre ++ Ex.flats ks).length (by omega) hr1 hr2 ?_) | refine CallP.pure _ rfl _ (pb) ?_ | with_reducible first | apply l_ | apply m_ | apply n_ | apply o_ | refine p_ (fun _ => ?_) (fun _ => ?_)) <;> (conv => whnf)))
        exact ⟨k + 1, by show k + 1 ≤ _; omega, by omega, [], rfl, rfl, ⟨.inl rfl, .inl rfl, PLe.int (by rw [List.length_append]), PLe.int (by omega), trivial⟩, trivial⟩
      · ((conv => whnf); repeat' ((first | (with_reducible first | apply a_ | apply b_ | apply c_) | ((with_reducible first | apply d_ | apply e_ | apply f_ | apply g_); focus first | omega | (simp only [q_] <;> omega)) | ((with_reducible first | apply i_ | apply h_); focus first | omega | (simp only [q_] <;> omega)) | ((with_reducible apply h_); focus first | decide | kernel_rfl) | refine BCase.t (by decide) ?_ | refine BCase.f (by decide) ?_ | (refine Idx.mapE (pre ++ Ex.flats ks).length (by omega) hr1 hr2 ?_) | with_reducible first | apply l_ | apply m_ | apply n_ | apply o_ | refine p_ (fun _ => ?_) (fun _ => ?_)) <;> (conv => whnf)))
        refine Ret.int ?_
        rw [show ks.length - k = 0 by omega, List.take_zero, Ex.flats]; simp
def ek (x : List NodeD) : List C := [.sl 6 (x.map NodeD.c)]
theorem kid_slice {n : NodeD} {ks : List Ex} {i : Nat} (h : i < ks.length) {a b : Nat} (ha : a = (Ex.flats (ks.take i)).length) (hb : b = (Ex.flats (ks.take (i + 1))).length) : (((Ex.mk n ks).flat.map NodeD.c).drop a).take (b - a) = ks[i].flat.map NodeD.c := by
  have hp := flats_part h
  have hs := flats_snoc h
  subst ha hb
  rw [hs, List.length_append, Nat.add_sub_cancel_left, Ex.flat, hp, ← List.map_drop, ← List.map_take]
  congr 1
  rw [List.append_assoc, List.append_assoc, List.drop_left' rfl, List.take_left' rfl]
theorem p_exprkids (n : NodeD) (ks : List Ex) (hg : (Ex.mk n ks).good) (e : List NodeD) (he : (Ex.mk n ks).flat = e) (hl : e.length ≤ 1000) : Pure Tryz.prog 40 [slV 6 NodeD.c e] (.d (.c (.sl 1 (ks.map fun k => ek k.flat)))) := by
  have hg0 := hg
  rw [Ex.good] at hg0
  obtain ⟨hk, hgs⟩ := hg0
  have hlen : e.length = (Ex.flats ks).length + 1 := by rw [← he, Ex.flat, List.length_append, List.length_singleton]
  have hml : (e.map NodeD.c).length = (Ex.flats ks).length + 1 := by rw [List.length_map, hlen]
  have he2 := root_at (n := n) (ks := ks) (e := e) (pre := []) (post := []) (by rw [he]; simp)
  obtain ⟨hr1, hr2⟩ := root_get he2
  have hpl : ([] ++ Ex.flats ks).length = (Ex.flats ks).length := rfl
  have hkb := len_le_flats ks
  have hsp : Ex.flats ks = Ex.flats (ks.take ks.length) := by rw [List.take_length]
  refine pure_of Tryz.func40 (by rfl) rfl (by kernel_rfl) (by rfl) ?_
  ((conv => whnf); repeat' ((first | (with_reducible first | apply a_ | apply b_ | apply c_) | ((with_reducible first | apply d_ | apply e_ | apply f_ | apply g_); focus first | omega | (simp only [q_] <;> omega)) | ((with_reducible first | apply i_ | apply h_); focus first | omega | (simp only [q_] <;> omega)) | ((with_reducible apply h_); focus first | decide | kernel_rfl) | refine BCase.t (by decide) ?_ | refine BCase.f (by decide) ?_ | with_reducible first | apply l_ | apply m_ | apply n_ | apply o_ | refine p_ (fun _ => ?_) (fun _ => ?_)) <;> (conv => whnf)))
  refine LoopC.mk Nat (fun k => [(0, slV 6 NodeD.c e), (3, .d (.app 60 22 1 ((ks.drop (ks.length - k)).map fun k => ek k.flat))), (4, pInt .i64 ((Ex.flats (ks.take (ks.length - k))).length : Nat)), (5, pInt .i64 k)]) (fun _ => [(60, .tail 22 1)]) [60] (fun k => k ≤ ks.length) (fun k => ks.length - k) 0 (Nat.zero_le _) ?start ?round
  case start => exact ⟨[], rfl, rfl, ⟨.inl rfl, ⟨rfl, rfl, Nat.zero_lt_succ _, by rw [List.drop_of_length_le (by omega)]; rfl, rfl⟩, PLe.int (by rw [Nat.sub_zero, ← hsp]; omega), .inl rfl, trivial⟩, ⟨rfl, Nat.zero_lt_succ _⟩, trivial⟩
  case round =>
    intro k hk2
    have hk2 : k ≤ ks.length := hk2
    by_cases q : k < ks.length
    · have hi : ks.length - (k + 1) < ks.length := by omega
      have hp := flats_part hi
      have hm := List.getElem_mem hi
      have hfl := flat_le_flats hm
      have hs := flats_snoc hi
      have hks := kid_slice (n := n) hi rfl rfl
      rw [he] at hks
      rw [show ks.length - (k + 1) + 1 = ks.length - k by omega] at hs hp hks
      have hsl : (Ex.flats (ks.take (ks.length - k))).length ≤ (Ex.flats ks).length := by rw [hp, hs]; simp
      have hsl2 : (Ex.flats (ks.take (ks.length - (k + 1)))).length ≤ (Ex.flats (ks.take (ks.length - k))).length := by rw [hs]; simp
      have pb := p_exprbegin 1000 ks[ks.length - (k + 1)] (by omega) (Ex.goods_mem hgs _ hm) e (Ex.flats (ks.take (ks.length - (k + 1)))) (Ex.flats (ks.drop (ks.length - k)) ++ [n]) (by rw [he2, hp]; simp) (by omega)
      have e1 : (Ex.flats (ks.take (ks.length - (k + 1)))).length + ks[ks.length - (k + 1)].flat.length = (Ex.flats (ks.take (ks.length - k))).length := by rw [hs, List.length_append]
      rw [e1] at pb
      ((conv => whnf); repeat' ((first | (with_reducible first | apply a_ | apply b_ | apply c_) | ((with_reducible first | apply d_ | apply e_ | apply f_ | apply g_); focus first | omega | (simp only [q_] <;> omega)) | ((with_reducible first | apply i_ | apply h_); focus first | omega | (simp only [q_] <;> omega)) | ((with_reducible apply h_); focus first | decide | kernel_rfl) | refine BCase.t (by decide) ?_ | refine BCase.f (by decide) ?_ | (refine Idx.mapE ([] ++ Ex.flats ks).length (by omega) hr1 hr2 ?_) | refine CallP.pure _ rfl _ (pb) ?_ | (refine Need.by 24 rfl (by simp only [List.length_singleton, List.length_map, List.length_drop]; omega) ?_) | with_reducible first | apply l_ | apply m_ | apply n_ | apply o_ | refine p_ (fun _ => ?_) (fun _ => ?_)) <;> (conv => whnf)))
      refine ⟨k + 1, by show k + 1 ≤ _; omega, by omega, [(60, 30)], rfl, rfl, ⟨.inl rfl, ⟨rfl, rfl, rfl, rfl, ?_⟩, .inl rfl, PLe.int rfl, trivial⟩, ⟨rfl, rfl, rfl⟩, trivial⟩
      rw [List.drop_eq_getElem_cons (by omega : ks.length - (k + 1) < ks.length), show ks.length - (k + 1) + 1 = ks.length - k by omega, List.map_cons]
      show _ = ek _ :: _
      unfold ek
      rw [← hks]
      simp
    · ((conv => whnf); repeat' ((first | (with_reducible first | apply a_ | apply b_ | apply c_) | ((with_reducible first | apply d_ | apply e_ | apply f_ | apply g_); focus first | omega | (simp only [q_] <;> omega)) | ((with_reducible first | apply i_ | apply h_); focus first | omega | (simp only [q_] <;> omega)) | ((with_reducible apply h_); focus first | decide | kernel_rfl) | refine BCase.t (by decide) ?_ | refine BCase.f (by decide) ?_ | (refine Idx.mapE ([] ++ Ex.flats ks).length (by omega) hr1 hr2 ?_) | with_reducible first | apply l_ | apply m_ | apply n_ | apply o_ | refine p_ (fun _ => ?_) (fun _ => ?_)) <;> (conv => whnf)))
      refine Ret.eq ?_
      rw [show ks.length - k = 0 by omega, List.drop_zero]
end Go.Proofs.YtggdfnjomonbkaaGreatDoor.Pm
end
section
namespace Go.Proofs.YtggdfnjomonbkaaGreatDoor.Pm
open Go.RowKit K
set_option linter.unusedVariables false
set_option linter.unusedSimpArgs false
set_option maxRecDepth 100000
def NInT (t : Ex) : Prop := ∀ n ∈ t.flat, alF n = 0 ∧ WholeP.In64 n.V.N
theorem flats_mem : ∀ {l : List Ex} {t : Ex} {m : NodeD}, t ∈ l → m ∈ t.flat → m ∈ Ex.flats l
  | [], _, _, h, _ => by cases h
  | x :: l, t, m, h, hm => by
    rw [Ex.flats]
    rcases List.mem_cons.1 h with rfl | h
    · exact List.mem_append_left _ hm
    · exact List.mem_append_right _ (flats_mem h hm)
theorem nInT_kid {n : NodeD} {ks : List Ex} (h : NInT (.mk n ks)) : ∀ t ∈ ks, NInT t := by
  intro t ht m hm
  refine h m ?_
  rw [Ex.flat]
  refine List.mem_append_left _ ?_
  exact flats_mem ht hm
theorem nInT_root {n : NodeD} {ks : List Ex} (h : NInT (.mk n ks)) : alF n = 0 ∧ WholeP.In64 n.V.N := h n (by rw [Ex.flat]; simp)
mutual
theorem foldX_rv {look : Look} (hL : LookOk look) : ∀ (t : Ex), NInT t → ∀ v, foldX (nodF look) t = .ok v → RV v
  | .mk n ks, hn, v, h => by
    rw [foldX] at h
    split at h
    · cases h
    · rename_i vs hvs
      unfold nodF at h
      split at h
      · cases h
        have hr := nInT_root hn
        exact nod_rv hL hr.1 hr.2 fun u hu => (foldXs_rv hL ks (nInT_kid hn) vs hvs u hu).2
      · cases h
theorem foldXs_rv {look : Look} (hL : LookOk look) : ∀ (l : List Ex), (∀ t ∈ l, NInT t) → ∀ vs, foldXs (nodF look) l = .ok vs → ∀ u ∈ vs, RV u
  | [], _, vs, h, u, hu => by rw [foldXs] at h; cases h; cases hu
  | t :: l, hn, vs, h, u, hu => by
    rw [foldXs] at h
    split at h
    · cases h
    · rename_i v hv
      split at h
      · cases h
      · rename_i us hus
        cases h
        rcases List.mem_cons.1 hu with rfl | hu
        · exact foldX_rv hL t (hn t (List.mem_cons_self ..)) _ hv
        · exact foldXs_rv hL l (fun t ht => hn t (List.mem_cons_of_mem _ ht)) us hus u hu
end
mutual
theorem foldX_err {look : Look} : ∀ (t : Ex) {x : Int}, foldX (nodF look) t = .error x → x ≠ 0
  | .mk n ks, x, h => by
    rw [foldX] at h
    split at h
    · rename_i y hy; cases h; exact foldXs_err ks hy
    · exact nodF_err h
theorem foldXs_err {look : Look} : ∀ (l : List Ex) {x : Int}, foldXs (nodF look) l = .error x → x ≠ 0
  | [], x, h => by rw [foldXs] at h; cases h
  | t :: l, x, h => by
    rw [foldXs] at h
    split at h
    · rename_i y hy; cases h; exact foldX_err t hy
    · split at h
      · rename_i y hy; cases h; exact foldXs_err l hy
      · cases h
end
theorem recV_err {op : Int} {k : List ValueD} (h : (recV op k).2 ≠ 0) : (recV op k).1 = noV := by
  unfold recV at h ⊢
  split
  · rfl
  · rename_i q; rw [if_neg q] at h
    split
    · rfl
    · rename_i q; rw [if_neg q] at h
      split
      · rfl
      · rename_i q; rw [if_neg q] at h; exact absurd rfl h
theorem nodV_err {look : Look} {n : NodeD} {k : List ValueD} (h : (nodV look n k).2 ≠ 0) : (nodV look n k).1 = noV := by
  unfold nodV at h ⊢
  by_cases g1 : n.Op = 1
  · rw [if_pos g1] at h; exact absurd rfl h
  rw [if_neg g1] at h ⊢
  by_cases g2 : n.Op = 2
  · rw [if_pos g2] at h ⊢
    cases hq : look n.Name with
    | none => rfl
    | some v => rw [hq] at h; exact absurd rfl h
  rw [if_neg g2] at h ⊢
  by_cases g3 : n.Op = 3 ∨ (5 ≤ n.Op ∧ n.Op ≤ 9)
  · rw [if_pos g3] at h ⊢; exact recV_err h
  rw [if_neg g3] at h ⊢
  by_cases g4 : (askV (if negB n.Op then couF n.Op else n.Op) k).2 ≠ 0
  · rw [if_pos g4]
  · rw [if_neg g4] at h; exact absurd rfl h
def aheadV (vs : List ValueD) (r : Except Int (List ValueD)) : Except Int (List ValueD) := match r with
  | .error x => .error x
  | .ok us => .ok (vs ++ us)
theorem p_valueof (cols : List (List UInt8)) (row : List ValueD) (hc : cols.length = row.length) (hcl : cols.length ≤ 1000000) (hr : ∀ v ∈ row, RV v) : ∀ (N : Nat) (t : Ex), t.flat.length ≤ N → t.good → NInT t → t.flat.length ≤ 1000 →
    Pure Tryz.prog 26 [slV 6 NodeD.c t.flat, slV 1 eText cols, slV 3 ValueD.c row] (eVal (foldX (nodF (lookC cols row)) t))
  | 0, t, hN, hg, hn, hl => by have := t.flat_pos; omega
  | N + 1, .mk n ks, hN, hg, hn, hl => by
    have hg0 := hg
    rw [Ex.good] at hg
    obtain ⟨hk, hgs⟩ := hg
    have hlen : (Ex.mk n ks).flat.length = (Ex.flats ks).length + 1 := by rw [Ex.flat, List.length_append, List.length_singleton]
    have hkb := len_le_flats ks
    obtain ⟨e, he⟩ : ∃ e, e = (Ex.mk n ks).flat := ⟨_, rfl⟩
    have pk := p_exprkids n ks hg0 e he.symm (by rw [he]; exact hl)
    have he2 := root_at (n := n) (ks := ks) (e := e) (pre := []) (post := []) (by rw [he]; simp)
    obtain ⟨hr1, hr2⟩ := root_get he2
    have hpl : ([] ++ Ex.flats ks).length = (Ex.flats ks).length := rfl
    have hel : e.length = (Ex.flats ks).length + 1 := by rw [he, hlen]
    have hml : (e.map NodeD.c).length = (Ex.flats ks).length + 1 := by rw [List.length_map, hel]
    have hroot := nInT_root hn
    have hL := look_ok (cols := cols) hr
    rw [← he] at hl hN ⊢
    rw [foldX]
    refine pure_of Tryz.func26 (by rfl) rfl (by kernel_rfl) (by rfl) ?_
    ((conv => whnf); repeat' ((first | (with_reducible first | apply a_ | apply b_ | apply c_) | ((with_reducible first | apply d_ | apply e_ | apply f_ | apply g_); focus first | omega | (simp only [q_] <;> omega)) | ((with_reducible first | apply i_ | apply h_); focus first | omega | (simp only [q_] <;> omega)) | ((with_reducible apply h_); focus first | decide | kernel_rfl) | refine BCase.t (by decide) ?_ | refine BCase.f (by decide) ?_ | refine CallP.pure _ rfl _ (pk) ?_ | with_reducible first | apply l_ | apply m_ | apply n_ | apply o_ | refine p_ (fun _ => ?_) (fun _ => ?_)) <;> (conv => whnf)))
    refine LoopC.mk (Nat × List ValueD) (fun s => [(0, slV 6 NodeD.c e), (1, slV 1 eText cols), (2, slV 3 ValueD.c row), (6, .d (.ptr 6 0)), (8, .d (.c (.sl 1 (ks.map fun k => ek k.flat)))), (9, .d (.app 60 26 3 (s.2.map ValueD.c))), (10, pInt .i64 s.1)]) (fun s => [(6, .box 26 vZ), (60, .tail 26 3)]) [6, 60] (fun s => s.1 ≤ ks.length ∧ s.2.length = s.1 ∧ foldXs (nodF (lookC cols row)) ks = aheadV s.2 (foldXs (nodF (lookC cols row)) (ks.drop s.1))) (fun s => ks.length - s.1) (0, []) ⟨Nat.zero_le _, rfl, ?base⟩ ?start ?round
    case base =>
      show foldXs _ ks = aheadV [] (foldXs _ ks)
      cases foldXs (nodF (lookC cols row)) ks <;> rfl
    case start => exact ⟨[(6, 6)], rfl, rfl, ⟨.inl rfl, .inl rfl, .inl rfl, ⟨rfl, rfl, rfl⟩, .inl rfl, ⟨rfl, rfl, Nat.zero_lt_succ _, rfl, rfl⟩, .inl rfl, trivial⟩, ⟨rfl, rfl, ⟨.inl rfl, .inl rfl, .inl rfl, rfl⟩⟩, ⟨rfl, Nat.zero_lt_succ _⟩, trivial⟩
    case round =>
      rintro ⟨j, vs⟩ ⟨hj, hvl, hz⟩
      have hj : j ≤ ks.length := hj
      have hvl : vs.length = j := hvl
      have hz : foldXs (nodF (lookC cols row)) ks = aheadV vs (foldXs (nodF (lookC cols row)) (ks.drop j)) := hz
      by_cases q : j < ks.length
      · have hm := List.getElem_mem q
        have hfl := flat_le_flats hm
        have pv := p_valueof cols row hc hcl hr N ks[j] (by omega) (Ex.goods_mem hgs _ hm) (nInT_kid hn _ hm) (by omega)
        rw [List.drop_eq_getElem_cons q, foldXs] at hz
        cases hx : foldX (nodF (lookC cols row)) ks[j] with
        | error x =>
          rw [hx] at hz pv
          have pv : Pure _ _ _ (.tup [vV noV, pInt .i64 x]) := pv
          have h0 := foldX_err _ hx
          rw [hz]
          ((conv => whnf); repeat' ((first | (with_reducible first | apply a_ | apply b_ | apply c_) | ((with_reducible first | apply d_ | apply e_ | apply f_ | apply g_); focus first | omega | (simp only [q_] <;> omega)) | ((with_reducible first | apply i_ | apply h_); focus first | omega | (simp only [q_] <;> omega)) | ((with_reducible apply h_); focus first | decide | kernel_rfl) | refine BCase.t (by decide) ?_ | refine BCase.f (by decide) ?_ | (refine Idx.mapI (f := fun k => ek k.flat) j rfl q ?_) | refine CallP.pure _ rfl _ (pv) ?_ | with_reducible first | apply l_ | apply m_ | apply n_ | apply o_ | refine p_ (fun _ => ?_) (fun _ => ?_)) <;> (conv => whnf)))
          all_goals first | exact Ret.eq rfl | (exfalso; omega)
        | ok v =>
          rw [hx] at hz pv
          have pv : Pure _ _ _ (.tup [vV v, pInt .i64 0]) := pv
          ((conv => whnf); repeat' ((first | (with_reducible first | apply a_ | apply b_ | apply c_) | ((with_reducible first | apply d_ | apply e_ | apply f_ | apply g_); focus first | omega | (simp only [q_] <;> omega)) | ((with_reducible first | apply i_ | apply h_); focus first | omega | (simp only [q_] <;> omega)) | ((with_reducible apply h_); focus first | decide | kernel_rfl) | refine BCase.t (by decide) ?_ | refine BCase.f (by decide) ?_ | (refine Idx.mapI (f := fun k => ek k.flat) j rfl q ?_) | refine CallP.pure _ rfl _ (pv) ?_ | (refine Need.by 32 rfl (by simp only [List.length_map, List.length_singleton]; omega) ?_) | with_reducible first | apply l_ | apply m_ | apply n_ | apply o_ | refine p_ (fun _ => ?_) (fun _ => ?_)) <;> (conv => whnf)))
          refine ⟨(j + 1, vs ++ [v]), ⟨by show j + 1 ≤ _; omega, by show (vs ++ [v]).length = j + 1; simp [hvl], ?_⟩, by show ks.length - (j + 1) < ks.length - j; omega, [(6, 6), (60, 38)], rfl, rfl, ⟨.inl rfl, .inl rfl, .inl rfl, ⟨rfl, rfl, rfl⟩, .inl rfl, ⟨rfl, rfl, rfl, rfl, by rw [List.map_append]; rfl⟩, PLe.int (by omega), trivial⟩, ⟨rfl, rfl, ⟨.inl rfl, .inl rfl, .inl rfl, rfl⟩⟩, ⟨rfl, rfl, rfl⟩, trivial⟩
          show foldXs _ ks = aheadV (vs ++ [v]) (foldXs _ (ks.drop (j + 1)))
          rw [hz]
          cases foldXs (nodF (lookC cols row)) (ks.drop (j + 1)) with
          | error x => rfl
          | ok us => simp [aheadV]
      · rw [List.drop_of_length_le (by omega), foldXs] at hz
        have hz : foldXs (nodF (lookC cols row)) ks = .ok vs := by rw [hz]; show Except.ok (vs ++ []) = _; rw [List.append_nil]
        have hvr := foldXs_rv hL ks (nInT_kid hn) vs hz
        have pn := p_nodeof cols row hc hcl n vs hroot.1 (by rw [hvl, hk]; omega) hvr
        rw [nod_eq (lookC cols row) hroot.1 (by rw [hvl, hk]; omega) (fun v hv => (hvr v hv).1)] at pn
        rw [hz]
        ((conv => whnf); repeat' ((first | (with_reducible first | apply a_ | apply b_ | apply c_) | ((with_reducible first | apply d_ | apply e_ | apply f_ | apply g_); focus first | omega | (simp only [q_] <;> omega)) | ((with_reducible first | apply i_ | apply h_); focus first | omega | (simp only [q_] <;> omega)) | ((with_reducible apply h_); focus first | decide | kernel_rfl) | refine BCase.t (by decide) ?_ | refine BCase.f (by decide) ?_ | (refine Idx.mapE ([] ++ Ex.flats ks).length (by omega) hr1 hr2 ?_) | refine CallP.pure _ rfl _ (pn) ?_ | with_reducible first | apply l_ | apply m_ | apply n_ | apply o_ | refine p_ (fun _ => ?_) (fun _ => ?_)) <;> (conv => whnf)))
        refine Ret.eq ?_
        show _ = eVal (nodF (lookC cols row) n vs)
        unfold nodF
        split
        · rename_i h0; rw [h0]; rfl
        · rename_i h0; rw [nodV_err h0]; rfl
end Go.Proofs.YtggdfnjomonbkaaGreatDoor.Pm
end
section
namespace Go.Proofs.YtggdfnjomonbkaaGreatDoor.Pm
open Go.RowKit K
set_option linter.unusedVariables false
set_option linter.unusedSimpArgs false
set_option maxRecDepth 100000
theorem p_samenodes (a b : List NodeD) (ha : a.length ≤ 140737488355328) : Pure Tryz.prog 20 [slV 6 NodeD.c a, slV 6 NodeD.c b] (pBool (listEqB NodeD.eqB a b)) := by
  refine pure_of Tryz.func20 (by rfl) rfl (by kernel_rfl) (by rfl) ?_
  by_cases hl : a.length = b.length
  · (((conv => whnf); repeat ((with_reducible first | refine BCase.tt ?_ | refine BCase.ff ?_); (conv => whnf))); repeat ((first | with_reducible refine Wr.u8 ?_ | ((with_reducible first | refine Wr.ci ?wxs ?_ | refine Wr.c3 ?wxs ?_ | refine Wr.c6 ?wxs ?_ | refine BCase.dt ?wxs ?_); case wxs => (first | omega | (simp only [lens, true_and, and_true]; (try omega); done))) | ((with_reducible refine BCase.df ?wxs ?_); case wxs => (first | omega | (simp only [lens, true_and, and_true]; (try omega); done))) | ((with_reducible refine Need.mk ?wxs ?_); case wxs => first | (first | omega | (simp only [lens, true_and, and_true]; (try omega); done)) | decide | kernel_rfl) | refine BCase.t (by decide) ?_ | refine BCase.f (by decide) ?_ | with_reducible (first | refine BCase.not ?_ | refine BCase.and ?_ | refine BCase.or ?_)); ((conv => whnf); repeat ((with_reducible first | refine BCase.tt ?_ | refine BCase.ff ?_); (conv => whnf)))))
    refine LoopC.mk Nat (fun k => [(0, slV 6 NodeD.c a), (1, slV 6 NodeD.c b), (5, pInt .i64 k)]) (fun _ => []) [] (fun k => k ≤ a.length ∧ listEqB NodeD.eqB (a.take k) (b.take k) = true) (fun k => a.length - k) 0 ⟨Nat.zero_le _, by simp [listEqB]⟩ ?start ?round
    case start => exact ⟨[], rfl, rfl, ⟨.inl rfl, .inl rfl, .inl rfl, trivial⟩, trivial⟩
    case round =>
      rintro k ⟨hk, hz⟩
      by_cases h1 : k < a.length
      · have h2 : k < b.length := by omega
        cases hx : NodeD.eqB a[k] b[k] with
        | true =>
          ((conv => whnf); repeat' ((first | (with_reducible first | apply a_ | apply b_ | apply c_) | ((with_reducible first | apply d_ | apply e_ | apply f_ | apply g_); focus first | omega | (simp only [q_] <;> omega)) | ((with_reducible first | apply i_ | apply h_); focus first | omega | (simp only [q_] <;> omega)) | ((with_reducible apply h_); focus first | decide | kernel_rfl) | refine BCase.t (by decide) ?_ | refine BCase.f (by decide) ?_ | (first | refine Idx.mapI (l := a) k rfl h1 ?_ | refine Idx.mapI (l := b) k rfl h2 ?_) | with_reducible first | apply l_ | apply m_ | apply n_ | apply o_ | refine p_ (fun _ => ?_) (fun _ => ?_)) <;> (conv => whnf)))
          all_goals first
            | exact ⟨k + 1, ⟨by omega, (listEqB_step hz h1 h2).trans hx⟩, by omega, [], rfl, rfl, ⟨.inl rfl, .inl rfl, PLe.int (by omega), trivial⟩, trivial⟩
            | (exfalso; have he := (NodeD.eqB_iff _ _).1 hx; rename_i z; exact z (by rw [he]))
        | false =>
          ((conv => whnf); repeat' ((first | (with_reducible first | apply a_ | apply b_ | apply c_) | ((with_reducible first | apply d_ | apply e_ | apply f_ | apply g_); focus first | omega | (simp only [q_] <;> omega)) | ((with_reducible first | apply i_ | apply h_); focus first | omega | (simp only [q_] <;> omega)) | ((with_reducible apply h_); focus first | decide | kernel_rfl) | refine BCase.t (by decide) ?_ | refine BCase.f (by decide) ?_ | (first | refine Idx.mapI (l := a) k rfl h1 ?_ | refine Idx.mapI (l := b) k rfl h2 ?_) | with_reducible first | apply l_ | apply m_ | apply n_ | apply o_ | refine p_ (fun _ => ?_) (fun _ => ?_)) <;> (conv => whnf)))
          all_goals first
            | exact Ret.bool (listEqB_stop h1 h2 hx).symm
            | (exfalso; rename_i e1 e2 e3 e4 e5 e6; have he : NodeD.eqB a[k] b[k] = true := by simp [NodeD.eqB, e1, e2, e3, e4, e5, e6]
               rw [he] at hx; cases hx)
      · ((conv => whnf); repeat' ((first | (with_reducible first | apply a_ | apply b_ | apply c_) | ((with_reducible first | apply d_ | apply e_ | apply f_ | apply g_); focus first | omega | (simp only [q_] <;> omega)) | ((with_reducible first | apply i_ | apply h_); focus first | omega | (simp only [q_] <;> omega)) | ((with_reducible apply h_); focus first | decide | kernel_rfl) | refine BCase.t (by decide) ?_ | refine BCase.f (by decide) ?_ | with_reducible first | apply l_ | apply m_ | apply n_ | apply o_ | refine p_ (fun _ => ?_) (fun _ => ?_)) <;> (conv => whnf)))
        exact Ret.bool (listEqB_all hz (by omega) (by omega)).symm
  · ((conv => whnf); repeat' ((first | (with_reducible first | apply a_ | apply b_ | apply c_) | ((with_reducible first | apply d_ | apply e_ | apply f_ | apply g_); focus first | omega | (simp only [q_] <;> omega)) | ((with_reducible first | apply i_ | apply h_); focus first | omega | (simp only [q_] <;> omega)) | ((with_reducible apply h_); focus first | decide | kernel_rfl) | refine BCase.t (by decide) ?_ | refine BCase.f (by decide) ?_ | with_reducible first | apply l_ | apply m_ | apply n_ | apply o_ | refine p_ (fun _ => ?_) (fun _ => ?_)) <;> (conv => whnf)))
    exact Ret.bool (listEqB_len hl).symm
def hasCols (l : List NodeD) : Bool := l.any fun n => decide (n.Op = 2)
theorem p_hascols (l : List NodeD) (hl : l.length ≤ 140737488355328) : Pure Tryz.prog 39 [slV 6 NodeD.c l] (pBool (hasCols l)) := by
  refine pure_of Tryz.func39 (by rfl) rfl (by kernel_rfl) (by rfl) ?_
  ((conv => whnf); repeat' ((first | (with_reducible first | apply a_ | apply b_ | apply c_) | ((with_reducible first | apply d_ | apply e_ | apply f_ | apply g_); focus first | omega | (simp only [q_] <;> omega)) | ((with_reducible first | apply i_ | apply h_); focus first | omega | (simp only [q_] <;> omega)) | ((with_reducible apply h_); focus first | decide | kernel_rfl) | refine BCase.t (by decide) ?_ | refine BCase.f (by decide) ?_ | with_reducible first | apply l_ | apply m_ | apply n_ | apply o_ | refine p_ (fun _ => ?_) (fun _ => ?_)) <;> (conv => whnf)))
  refine LoopC.mk Nat (fun k => [(0, slV 6 NodeD.c l), (3, pInt .i64 k)]) (fun _ => []) [] (fun k => k ≤ l.length ∧ hasCols l = hasCols (l.drop k)) (fun k => l.length - k) 0 ⟨Nat.zero_le _, rfl⟩ ?start ?round
  case start => exact ⟨[], rfl, rfl, ⟨.inl rfl, .inl rfl, trivial⟩, trivial⟩
  case round =>
    rintro k ⟨hk, hz⟩
    have hk : k ≤ l.length := hk
    by_cases h1 : k < l.length
    · rw [List.drop_eq_getElem_cons h1] at hz
      by_cases h2 : l[k].Op = 2
      · have hz : hasCols l = true := by
          rw [hz]
          show (l[k] :: _).any _ = true
          rw [List.any_cons, decide_eq_true h2]; rfl
        rw [hz]
        ((conv => whnf); repeat' ((first | (with_reducible first | apply a_ | apply b_ | apply c_) | ((with_reducible first | apply d_ | apply e_ | apply f_ | apply g_); focus first | omega | (simp only [q_] <;> omega)) | ((with_reducible first | apply i_ | apply h_); focus first | omega | (simp only [q_] <;> omega)) | ((with_reducible apply h_); focus first | decide | kernel_rfl) | refine BCase.t (by decide) ?_ | refine BCase.f (by decide) ?_ | (refine Idx.mapI k rfl h1 ?_) | with_reducible first | apply l_ | apply m_ | apply n_ | apply o_ | refine p_ (fun _ => ?_) (fun _ => ?_)) <;> (conv => whnf)))
        exact Ret.bool rfl
      · have hz : hasCols l = hasCols (l.drop (k + 1)) := by
          rw [hz]
          show (l[k] :: _).any _ = _
          rw [List.any_cons, decide_eq_false h2, Bool.false_or]; rfl
        ((conv => whnf); repeat' ((first | (with_reducible first | apply a_ | apply b_ | apply c_) | ((with_reducible first | apply d_ | apply e_ | apply f_ | apply g_); focus first | omega | (simp only [q_] <;> omega)) | ((with_reducible first | apply i_ | apply h_); focus first | omega | (simp only [q_] <;> omega)) | ((with_reducible apply h_); focus first | decide | kernel_rfl) | refine BCase.t (by decide) ?_ | refine BCase.f (by decide) ?_ | (refine Idx.mapI k rfl h1 ?_) | with_reducible first | apply l_ | apply m_ | apply n_ | apply o_ | refine p_ (fun _ => ?_) (fun _ => ?_)) <;> (conv => whnf)))
        exact ⟨k + 1, ⟨by omega, hz⟩, by omega, [], rfl, rfl, ⟨.inl rfl, PLe.int rfl, trivial⟩, trivial⟩
    · have hz : hasCols l = false := by rw [hz, List.drop_of_length_le (by omega)]; rfl
      rw [hz]
      ((conv => whnf); repeat' ((first | (with_reducible first | apply a_ | apply b_ | apply c_) | ((with_reducible first | apply d_ | apply e_ | apply f_ | apply g_); focus first | omega | (simp only [q_] <;> omega)) | ((with_reducible first | apply i_ | apply h_); focus first | omega | (simp only [q_] <;> omega)) | ((with_reducible apply h_); focus first | decide | kernel_rfl) | refine BCase.t (by decide) ?_ | refine BCase.f (by decide) ?_ | with_reducible first | apply l_ | apply m_ | apply n_ | apply o_ | refine p_ (fun _ => ?_) (fun _ => ?_)) <;> (conv => whnf)))
      exact Ret.bool rfl
end Go.Proofs.YtggdfnjomonbkaaGreatDoor.Pm
end
section
namespace Go.Proofs.YtggdfnjomonbkaaGreatDoor.Pm
open Go.RowKit K
set_option linter.unusedVariables false
set_option linter.unusedSimpArgs false
set_option maxRecDepth 100000
def litN (v : ValueD) : NodeD := ⟨1, 0, v, []⟩
abbrev litT (v : ValueD) : Ex := .mk (litN v) []
mutual
def hasC : Ex → Bool
  | .mk n ks => decide (n.Op = 2) || hasCs ks
def hasCs : List Ex → Bool
  | [] => false
  | t :: ts => hasC t || hasCs ts
end
abbrev noLook : Look := fun _ => none
noncomputable def foldN (c : Bool) (n : NodeD) (ks : List Ex) : Ex :=
  if c then .mk n ks else match foldX (nodF noLook) (.mk n ks) with
    | .ok v => if 0 ≤ v.N then litT v else .mk n ks
    | .error _ => .mk n ks
mutual
noncomputable def foldE : Ex → Ex
  | .mk n ks => foldN (hasC (.mk n ks)) n (foldEs ks)
noncomputable def foldEs : List Ex → List Ex
  | [] => []
  | t :: ts => foldE t :: foldEs ts
end
theorem foldEs_len : ∀ l : List Ex, (foldEs l).length = l.length
  | [] => by rw [foldEs]
  | t :: l => by rw [foldEs, List.length_cons, List.length_cons, foldEs_len l]
theorem foldEs_map : ∀ l : List Ex, foldEs l = l.map foldE
  | [] => by rw [foldEs, List.map_nil]
  | t :: l => by rw [foldEs, List.map_cons, foldEs_map l]
mutual
theorem hasC_flat : ∀ t : Ex, hasC t = hasCols t.flat
  | .mk n ks => by
    rw [hasC, Ex.flat, hasCs_flats ks]
    unfold hasCols
    rw [List.any_append]
    cases (Ex.flats ks).any (fun n => decide (n.Op = 2)) <;> simp
theorem hasCs_flats : ∀ l : List Ex, hasCs l = hasCols (Ex.flats l)
  | [] => by rw [hasCs, Ex.flats]; rfl
  | t :: l => by
    rw [hasCs, Ex.flats, hasC_flat t, hasCs_flats l]
    unfold hasCols
    rw [List.any_append]
end
theorem nodV_look {a b : Look} {n : NodeD} (h : n.Op ≠ 2) (k : List ValueD) : nodV a n k = nodV b n k := by
  unfold nodV
  by_cases g1 : n.Op = 1
  · rw [if_pos g1, if_pos g1]
  · rw [if_neg g1, if_neg g1, if_neg h, if_neg h]
theorem nodF_look {a b : Look} {n : NodeD} (h : n.Op ≠ 2) (k : List ValueD) : nodF a n k = nodF b n k := by
  unfold nodF
  rw [nodV_look (a := a) (b := b) h k]
mutual
theorem foldX_look (a b : Look) : ∀ t : Ex, hasC t = false → foldX (nodF a) t = foldX (nodF b) t
  | .mk n ks, h => by
    rw [hasC, Bool.or_eq_false_iff] at h
    rw [foldX, foldX, foldXs_look a b ks h.2]
    have h2 : n.Op ≠ 2 := of_decide_eq_false h.1
    cases foldXs (nodF b) ks with
    | error x => rfl
    | ok vs => exact nodF_look h2 vs
theorem foldXs_look (a b : Look) : ∀ l : List Ex, hasCs l = false → foldXs (nodF a) l = foldXs (nodF b) l
  | [], _ => by rw [foldXs, foldXs]
  | t :: l, h => by
    rw [hasCs, Bool.or_eq_false_iff] at h
    rw [foldXs, foldXs, foldX_look a b t h.1, foldXs_look a b l h.2]
end
theorem foldX_lit (look : Look) (v : ValueD) : foldX (nodF look) (litT v) = .ok v := by
  rw [foldX, foldXs]
  show nodF look (litN v) [] = _
  have : nodV look (litN v) [] = (v, 0) := by unfold nodV; exact if_pos rfl
  unfold nodF
  rw [this]; rfl
theorem hasC_lit (v : ValueD) : hasC (litT v) = false := by rw [hasC, hasCs]; rfl
theorem foldN_has {c : Bool} {n : NodeD} {ks : List Ex} (h : hasC (.mk n ks) = false) : hasC (foldN c n ks) = false := by
  unfold foldN
  split
  · exact h
  · split
    · split
      · exact hasC_lit _
      · exact h
    · exact h
mutual
theorem foldE_has : ∀ t : Ex, hasC t = false → hasC (foldE t) = false
  | .mk n ks, h => by
    rw [foldE]
    refine foldN_has ?_
    rw [hasC, Bool.or_eq_false_iff] at h ⊢
    exact ⟨h.1, foldEs_has ks h.2⟩
theorem foldEs_has : ∀ l : List Ex, hasCs l = false → hasCs (foldEs l) = false
  | [], _ => by rw [foldEs, hasCs]
  | t :: l, h => by
    rw [hasCs, Bool.or_eq_false_iff] at h
    rw [foldEs, hasCs, foldE_has t h.1, foldEs_has l h.2]; rfl
end
theorem foldN_val (look : Look) {c : Bool} {n : NodeD} {ks : List Ex} (hc : c = false → hasC (.mk n ks) = false) : foldX (nodF look) (foldN c n ks) = foldX (nodF look) (.mk n ks) := by
  unfold foldN
  split
  · rfl
  · rename_i h
    have h : c = false := by simpa using h
    have hn := hc h
    rw [foldX_look look noLook _ hn]
    split
    · rename_i v hv
      split
      · rw [foldX_lit, hv]
      · rw [foldX_look look noLook _ hn]
    · rw [foldX_look look noLook _ hn]
mutual
theorem foldE_val (look : Look) : ∀ t : Ex, foldX (nodF look) (foldE t) = foldX (nodF look) t
  | .mk n ks => by
    rw [foldE, foldN_val look (n := n) (ks := foldEs ks), foldX, foldX, foldEs_val look ks]
    intro h
    rw [hasC, Bool.or_eq_false_iff] at h ⊢
    exact ⟨h.1, foldEs_has ks h.2⟩
theorem foldEs_val (look : Look) : ∀ l : List Ex, foldXs (nodF look) (foldEs l) = foldXs (nodF look) l
  | [] => by rw [foldEs]
  | t :: l => by rw [foldEs, foldXs, foldXs, foldE_val look t, foldEs_val look l]
end
theorem lit_al {v : ValueD} (h : RV v) (h0 : 0 ≤ v.N) : alF (litN v) = 0 := by
  unfold alF
  rw [if_neg (by show ¬ ((1 : Int) < 1 ∨ (25 : Int) < 1); omega), if_neg]
  · refine (if_pos (show (litN v).Op = 1 from rfl)).trans ?_
    show (if vChk v ≠ 0 then vChk v else if v.N < 0 then 3 else 0) = 0
    rw [if_neg (by have : vChk v = 0 := h.1; rw [this]; decide), if_neg (by omega)]
  · rintro (g | g | g | g)
    · exact absurd g (by show ¬ (0 : Int) < leastK 1; decide)
    · exact absurd g (by show ¬ mostK 1 < (0 : Int); decide)
    · exact absurd rfl g.1
    · exact absurd rfl g.2
theorem lit_nin {v : ValueD} (h : RV v) (h0 : 0 ≤ v.N) : NInT (litT v) := by
  intro m hm
  rw [Ex.flat, Ex.flats] at hm
  simp only [List.nil_append, List.mem_singleton] at hm
  subst hm
  exact ⟨lit_al h h0, h.2⟩
theorem nInT_mk {n : NodeD} {ks : List Ex} (h : alF n = 0 ∧ WholeP.In64 n.V.N) (hk : ∀ m ∈ Ex.flats ks, alF m = 0 ∧ WholeP.In64 m.V.N) : NInT (.mk n ks) := by
  intro m hm
  rw [Ex.flat] at hm
  rcases List.mem_append.1 hm with hm | hm
  · exact hk m hm
  · rw [List.mem_singleton.1 hm]; exact h
theorem noLook_ok : LookOk noLook := fun s v h => by cases h
theorem foldN_nin {c : Bool} {n : NodeD} {ks : List Ex} (h : NInT (.mk n ks)) : NInT (foldN c n ks) := by
  unfold foldN
  split
  · exact h
  · split
    · rename_i v hv
      split
      · rename_i h0; exact lit_nin (foldX_rv noLook_ok _ h _ hv) h0
      · exact h
    · exact h
mutual
theorem foldE_nin : ∀ t : Ex, NInT t → NInT (foldE t)
  | .mk n ks, h => by
    rw [foldE]
    exact foldN_nin (nInT_mk (nInT_root h) (foldEs_nin ks (nInT_kid h)))
theorem foldEs_nin : ∀ l : List Ex, (∀ t ∈ l, NInT t) → ∀ m ∈ Ex.flats (foldEs l), alF m = 0 ∧ WholeP.In64 m.V.N
  | [], _, m, hm => by rw [foldEs, Ex.flats] at hm; cases hm
  | t :: l, h, m, hm => by
    rw [foldEs, Ex.flats] at hm
    rcases List.mem_append.1 hm with hm | hm
    · exact foldE_nin t (h t (List.mem_cons_self ..)) m hm
    · exact foldEs_nin l (fun t ht => h t (List.mem_cons_of_mem _ ht)) m hm
end
theorem foldN_good {c : Bool} {n : NodeD} {ks : List Ex} (h : (Ex.mk n ks).good) : (foldN c n ks).good := by
  have hl : ∀ v, (litT v).good := fun v => by rw [Ex.good, Ex.goods]; exact ⟨rfl, trivial⟩
  unfold foldN
  split
  · exact h
  · split
    · split
      · exact hl _
      · exact h
    · exact h
mutual
theorem foldE_good : ∀ t : Ex, t.good → (foldE t).good
  | .mk n ks, h => by
    rw [foldE]
    rw [Ex.good] at h
    refine foldN_good ?_
    rw [Ex.good, foldEs_len]
    exact ⟨h.1, foldEs_good ks h.2⟩
theorem foldEs_good : ∀ l : List Ex, Ex.goods l → Ex.goods (foldEs l)
  | [], _ => by rw [foldEs, Ex.goods]; trivial
  | t :: l, h => by
    rw [Ex.goods] at h
    rw [foldEs, Ex.goods]
    exact ⟨foldE_good t h.1, foldEs_good l h.2⟩
end
theorem foldN_short {c : Bool} {n : NodeD} {ks : List Ex} : (foldN c n ks).flat.length ≤ (Ex.mk n ks).flat.length := by
  have hl : ∀ v, (litT v).flat.length = 1 := fun v => by rw [Ex.flat, Ex.flats]; rfl
  have := (Ex.mk n ks).flat_pos
  unfold foldN
  split
  · omega
  · split
    · split
      · rw [hl]; omega
      · omega
    · omega
mutual
theorem foldE_short : ∀ t : Ex, (foldE t).flat.length ≤ t.flat.length
  | .mk n ks => by
    rw [foldE]
    have h1 := foldN_short (c := hasC (.mk n ks)) (n := n) (ks := foldEs ks)
    have h2 := foldEs_short ks
    rw [Ex.flat, List.length_append] at h1 ⊢
    omega
theorem foldEs_short : ∀ l : List Ex, (Ex.flats (foldEs l)).length ≤ (Ex.flats l).length
  | [] => by rw [foldEs]; exact Nat.le_refl _
  | t :: l => by
    rw [foldEs, Ex.flats, Ex.flats, List.length_append, List.length_append]
    have h1 := foldE_short t
    have h2 := foldEs_short l
    omega
end
theorem foldN_depth {c : Bool} {n : NodeD} {ks : List Ex} : (foldN c n ks).depth ≤ (Ex.mk n ks).depth := by
  have hl : ∀ v, (litT v).depth = 1 := fun v => by rw [Ex.depth, Ex.depths]
  have h1 : 1 ≤ (Ex.mk n ks).depth := by rw [Ex.depth]; omega
  unfold foldN
  split
  · omega
  · split
    · split
      · rw [hl]; omega
      · omega
    · omega
mutual
theorem foldE_depth : ∀ t : Ex, (foldE t).depth ≤ t.depth
  | .mk n ks => by
    rw [foldE]
    have h1 := foldN_depth (c := hasC (.mk n ks)) (n := n) (ks := foldEs ks)
    have h2 := foldEs_depth ks
    rw [Ex.depth] at h1 ⊢
    omega
theorem foldEs_depth : ∀ l : List Ex, Ex.depths (foldEs l) ≤ Ex.depths l
  | [] => by rw [foldEs]; exact Nat.le_refl _
  | t :: l => by
    rw [foldEs, Ex.depths, Ex.depths]
    have h1 := foldE_depth t
    have h2 := foldEs_depth l
    omega
end
end Go.Proofs.YtggdfnjomonbkaaGreatDoor.Pm
end
section
namespace Go.Proofs.YtggdfnjomonbkaaGreatDoor.Pm
open Go.RowKit K
set_option linter.unusedVariables false
set_option linter.unusedSimpArgs false
set_option maxRecDepth 100000
structure FoldD where
  e : List NodeD
  cols : Bool
def FoldD.c (x : FoldD) : List C := [.sl 6 (x.e.map NodeD.c), .v (.bool x.cols)]
abbrev fV (x : FoldD) : PV := .agg (x.c.map D.c)
def catF (fs : List FoldD) : List NodeD := fs.flatMap FoldD.e
def pickF (e : List NodeD) (r : Except Int ValueD) : FoldD := match r with
  | .ok v => if 0 ≤ v.N then ⟨[litN v], false⟩ else ⟨e, false⟩
  | .error _ => ⟨e, false⟩
noncomputable def foldL (n : NodeD) (fs : List FoldD) : FoldD :=
  if decide (n.Op = 2) || fs.any FoldD.cols then ⟨catF fs ++ [n], true⟩ else pickF (catF fs ++ [n]) (walkR (nodF noLook) (catF fs ++ [n]))
theorem p_raw0 (l : List NodeD) (hl : l.length ≤ 1000) (hn : NIn l) : Pure Tryz.prog 24 [slV 6 NodeD.c l, .d (.c (.v (.slice none 0 0))), .d (.c (.v (.slice none 0 0)))] (eVal (walkR (nodF noLook) l)) := by
  have h := p_raw l hl hn [] [] rfl (by simp) (fun v h => by cases h)
  rw [show lookC [] [] = noLook from rfl] at h
  refine h.le ⟨?_, ?_, ?_, rfl⟩
  · exact .inl rfl
  · exact .inr ⟨⟨1, rfl⟩, .inl rfl⟩
  · exact .inr ⟨⟨3, rfl⟩, .inl rfl⟩
theorem p_fold (n : NodeD) (fs : List FoldD) (hl : (catF fs ++ [n]).length ≤ 1000) (hf : fs.length ≤ 1000) (hn : NIn (catF fs ++ [n])) : Pure Tryz.prog 37 [nV n, slV 2 FoldD.c fs] (.tup [fV (foldL n fs), pInt .i64 0]) := by
  have pr := p_raw0 (catF fs ++ [n]) hl hn
  refine pure_of Tryz.func37 (by rfl) rfl (by kernel_rfl) (by rfl) ?_
  ((conv => whnf); repeat' ((first | (with_reducible first | apply a_ | apply b_ | apply c_) | ((with_reducible first | apply d_ | apply e_ | apply f_ | apply g_); focus first | omega | (simp only [q_] <;> omega)) | ((with_reducible first | apply i_ | apply h_); focus first | omega | (simp only [q_] <;> omega)) | ((with_reducible apply h_); focus first | decide | kernel_rfl) | refine BCase.t (by decide) ?_ | refine BCase.f (by decide) ?_ | with_reducible first | apply l_ | apply m_ | apply n_ | apply o_ | refine p_ (fun _ => ?_) (fun _ => ?_)) <;> (conv => whnf)))
  refine LoopC.mk Nat (fun j => [(2, .d (.ptr 2 0)), (4, .d (.ptr 4 0)), (6, .d (.ptr 6 0)), (15, slV 2 FoldD.c fs), (16, pInt .i64 fs.length), (17, pInt .i64 j)]) (fun j => [(2, .box 37 (n.c.map D.c)), (4, .box 54 [.c (.v (.slice none 0 0)), .c (.v (.bool false))]), (6, .box 54 [.app 60 37 6 ((catF (fs.take j)).map NodeD.c), .c (.v (.bool (decide (n.Op = 2) || (fs.take j).any FoldD.cols)))]), (60, .tail 37 6)]) [2, 4, 6, 60] (fun j => j ≤ fs.length) (fun j => fs.length - j) 0 (Nat.zero_le _) ?start ?round
  case start => exact ⟨[(2, 2), (4, 4), (6, 6)], rfl, rfl, ⟨⟨rfl, rfl, rfl⟩, ⟨rfl, rfl, rfl⟩, ⟨rfl, rfl, rfl⟩, .inl rfl, PLe.int (by simp), .inl rfl, trivial⟩, ⟨rfl, rfl, ⟨.inl rfl, .inl rfl, .inl rfl, .inl rfl, .inl rfl, .inl rfl, rfl⟩⟩, ⟨rfl, rfl, ⟨.inl rfl, .inl rfl, rfl⟩⟩, ⟨rfl, rfl, ⟨⟨rfl, rfl, Nat.zero_lt_succ _, rfl, rfl⟩, .inl (by simp), rfl⟩⟩, ⟨rfl, Nat.zero_lt_succ _⟩, trivial⟩
  case round =>
    intro j hj
    have hj : j ≤ fs.length := hj
    by_cases q : j < fs.length
    · have e1 : catF (fs.take (j + 1)) = catF (fs.take j) ++ fs[j].e := by rw [take_snoc q]; unfold catF; rw [List.flatMap_append]; simp
      have e2 : (fs.take (j + 1)).any FoldD.cols = ((fs.take j).any FoldD.cols || fs[j].cols) := by rw [take_snoc q, List.any_append]; simp
      have e3 : (catF (fs.take (j + 1))).length ≤ (catF fs).length := by
        conv => rhs; rw [← List.take_append_drop (j + 1) fs]
        unfold catF
        rw [List.flatMap_append, List.length_append]; omega
      rw [List.length_append, List.length_singleton] at hl
      rw [e1, List.length_append] at e3
      obtain ⟨b, hb⟩ : ∃ b, b = (decide (n.Op = 2) || (fs.take j).any FoldD.cols) := ⟨_, rfl⟩
      have e4 : (decide (n.Op = 2) || (fs.take (j + 1)).any FoldD.cols) = (b || fs[j].cols) := by rw [e2, ← Bool.or_assoc, ← hb]
      rw [← hb]
      cases b
      all_goals
        ((conv => whnf); repeat' ((first | (with_reducible first | apply a_ | apply b_ | apply c_) | ((with_reducible first | apply d_ | apply e_ | apply f_ | apply g_); focus first | omega | (simp only [q_] <;> omega)) | ((with_reducible first | apply i_ | apply h_); focus first | omega | (simp only [q_] <;> omega)) | ((with_reducible apply h_); focus first | decide | kernel_rfl) | refine BCase.t (by decide) ?_ | refine BCase.f (by decide) ?_ | (refine Idx.mapI j rfl q ?_) | (refine Need.by 64 rfl (by simp only [List.length_map]; omega) ?_) | with_reducible first | apply l_ | apply m_ | apply n_ | apply o_ | refine p_ (fun _ => ?_) (fun _ => ?_)) <;> (conv => whnf)))
        exact ⟨j + 1, by show j + 1 ≤ _; omega, by omega, [(2, 2), (4, 4), (6, 6), (60, 25)], rfl, rfl, ⟨⟨rfl, rfl, rfl⟩, ⟨rfl, rfl, rfl⟩, ⟨rfl, rfl, rfl⟩, .inl rfl, .inl rfl, PLe.int rfl, trivial⟩, ⟨rfl, rfl, ⟨.inl rfl, .inl rfl, .inl rfl, .inl rfl, .inl rfl, .inl rfl, rfl⟩⟩, ⟨rfl, rfl, ⟨.inl rfl, .inl rfl, rfl⟩⟩, ⟨rfl, rfl, ⟨⟨rfl, rfl, rfl, rfl, by rw [e1, List.map_append]⟩, .inl (by rw [e4]; rfl), rfl⟩⟩, ⟨rfl, rfl, rfl⟩, trivial⟩
    · rw [List.take_of_length_le (by omega)]
      have hl2 := hl
      rw [List.length_append, List.length_singleton] at hl2
      unfold foldL
      have em : (catF fs ++ [n]).map NodeD.c = (catF fs).map NodeD.c ++ [n.c] := by rw [List.map_append]; rfl
      cases hb : decide (n.Op = 2) || fs.any FoldD.cols with
      | true =>
        rw [if_pos rfl]
        ((conv => whnf); repeat' ((first | (with_reducible first | apply a_ | apply b_ | apply c_) | ((with_reducible first | apply d_ | apply e_ | apply f_ | apply g_); focus first | omega | (simp only [q_] <;> omega)) | ((with_reducible first | apply i_ | apply h_); focus first | omega | (simp only [q_] <;> omega)) | ((with_reducible apply h_); focus first | decide | kernel_rfl) | refine BCase.t (by decide) ?_ | refine BCase.f (by decide) ?_ | (refine Need.by 64 rfl (by simp only [List.length_map, List.length_singleton]; omega) ?_) | with_reducible first | apply l_ | apply m_ | apply n_ | apply o_ | refine p_ (fun _ => ?_) (fun _ => ?_)) <;> (conv => whnf)))
        refine Ret.eq ?_
        show _ = PV.tup [.agg [.c (.sl 6 ((catF fs ++ [n]).map NodeD.c)), .c (.v (.bool true))], pInt .i64 0]
        rw [em]; rfl
      | false =>
        rw [if_neg (by simp)]
        have eS : slV 6 NodeD.c (catF fs ++ [n]) = .d (.c (.sl 6 ((catF fs).map NodeD.c ++ [n.c]))) := by show PV.d (.c (.sl 6 _)) = _; rw [em]
        rw [eS] at pr
        cases hw : walkR (nodF noLook) (catF fs ++ [n]) with
        | ok v =>
          rw [hw] at pr
          have pr : Pure _ _ _ (.tup [vV v, pInt .i64 0]) := pr
          by_cases h0 : 0 ≤ v.N
          · rw [show pickF (catF fs ++ [n]) (.ok v) = ⟨[litN v], false⟩ from if_pos h0]
            ((conv => whnf); repeat' ((first | (with_reducible first | apply a_ | apply b_ | apply c_) | ((with_reducible first | apply d_ | apply e_ | apply f_ | apply g_); focus first | omega | (simp only [q_] <;> omega)) | ((with_reducible first | apply i_ | apply h_); focus first | omega | (simp only [q_] <;> omega)) | ((with_reducible apply h_); focus first | decide | kernel_rfl) | refine BCase.t (by decide) ?_ | refine BCase.f (by decide) ?_ | (refine Need.by 64 rfl (by simp only [List.length_map, List.length_singleton]; omega) ?_) | refine CallP.pure _ rfl _ (pr) ?_ | with_reducible first | apply l_ | apply m_ | apply n_ | apply o_ | refine p_ (fun _ => ?_) (fun _ => ?_)) <;> (conv => whnf)))
            all_goals first | exact Ret.eq rfl | (exfalso; omega)
          · rw [show pickF (catF fs ++ [n]) (.ok v) = ⟨catF fs ++ [n], false⟩ from if_neg h0]
            ((conv => whnf); repeat' ((first | (with_reducible first | apply a_ | apply b_ | apply c_) | ((with_reducible first | apply d_ | apply e_ | apply f_ | apply g_); focus first | omega | (simp only [q_] <;> omega)) | ((with_reducible first | apply i_ | apply h_); focus first | omega | (simp only [q_] <;> omega)) | ((with_reducible apply h_); focus first | decide | kernel_rfl) | refine BCase.t (by decide) ?_ | refine BCase.f (by decide) ?_ | (refine Need.by 64 rfl (by simp only [List.length_map, List.length_singleton]; omega) ?_) | refine CallP.pure _ rfl _ (pr) ?_ | with_reducible first | apply l_ | apply m_ | apply n_ | apply o_ | refine p_ (fun _ => ?_) (fun _ => ?_)) <;> (conv => whnf)))
            all_goals first | exact Ret.eq (by show _ = PV.tup [.agg [.c (.sl 6 ((catF fs ++ [n]).map NodeD.c)), .c (.v (.bool false))], pInt .i64 0]; rw [em]; rfl) | (exfalso; omega)
        | error x =>
          rw [hw] at pr
          have pr : Pure _ _ _ (.tup [vV noV, pInt .i64 x]) := pr
          have h0 := walkR_err (fun n k x => nodF_err) hw
          ((conv => whnf); repeat' ((first | (with_reducible first | apply a_ | apply b_ | apply c_) | ((with_reducible first | apply d_ | apply e_ | apply f_ | apply g_); focus first | omega | (simp only [q_] <;> omega)) | ((with_reducible first | apply i_ | apply h_); focus first | omega | (simp only [q_] <;> omega)) | ((with_reducible apply h_); focus first | decide | kernel_rfl) | refine BCase.t (by decide) ?_ | refine BCase.f (by decide) ?_ | (refine Need.by 64 rfl (by simp only [List.length_map, List.length_singleton]; omega) ?_) | refine CallP.pure _ rfl _ (pr) ?_ | with_reducible first | apply l_ | apply m_ | apply n_ | apply o_ | refine p_ (fun _ => ?_) (fun _ => ?_)) <;> (conv => whnf)))
          all_goals first | exact Ret.eq (by show _ = PV.tup [.agg [.c (.sl 6 ((catF fs ++ [n]).map NodeD.c)), .c (.v (.bool false))], pInt .i64 0]; rw [em]; rfl) | (exfalso; omega)
end Go.Proofs.YtggdfnjomonbkaaGreatDoor.Pm
end
section
namespace Go.Proofs.YtggdfnjomonbkaaGreatDoor.Pm
open Go.RowKit K
set_option linter.unusedVariables false
set_option linter.unusedSimpArgs false
set_option maxRecDepth 100000
theorem p_clonef (l : List FoldD) (h : l.length ≤ 1000000) : Pure Tryz.prog 57 [slV 2 FoldD.c l] (slV 2 FoldD.c l) := by
  cases l with
  | nil =>
    refine pure_sl0 ?_ fun a cap => ?_
    · refine pure_of Tryz.func57 (by rfl) rfl (by kernel_rfl) (by rfl) ?_
      ((conv => whnf); repeat' ((first | (with_reducible first | apply a_ | apply b_ | apply c_) | ((with_reducible first | apply d_ | apply e_ | apply f_ | apply g_); focus first | omega | (simp only [q_] <;> omega)) | ((with_reducible first | apply i_ | apply h_); focus first | omega | (simp only [q_] <;> omega)) | ((with_reducible apply h_); focus first | decide | kernel_rfl) | refine BCase.t (by decide) ?_ | refine BCase.f (by decide) ?_ | with_reducible first | apply l_ | apply m_ | apply n_ | apply o_ | refine p_ (fun _ => ?_) (fun _ => ?_)) <;> (conv => whnf)))
      exact Ret.le (.inr ⟨⟨2, rfl⟩, .inl rfl⟩)
    · refine pure_of Tryz.func57 (by rfl) rfl (by kernel_rfl) (by rfl) ?_
      ((conv => whnf); repeat' ((first | (with_reducible first | apply a_ | apply b_ | apply c_) | ((with_reducible first | apply d_ | apply e_ | apply f_ | apply g_); focus first | omega | (simp only [q_] <;> omega)) | ((with_reducible first | apply i_ | apply h_); focus first | omega | (simp only [q_] <;> omega)) | ((with_reducible apply h_); focus first | decide | kernel_rfl) | refine BCase.t (by decide) ?_ | refine BCase.f (by decide) ?_ | with_reducible first | apply l_ | apply m_ | apply n_ | apply o_ | refine p_ (fun _ => ?_) (fun _ => ?_)) <;> (conv => whnf)))
      exact Ret.mk rfl
  | cons x l =>
    refine pure_of Tryz.func57 (by rfl) rfl (by kernel_rfl) (by rfl) ?_
    ((conv => whnf); repeat' ((first | (with_reducible first | apply a_ | apply b_ | apply c_) | ((with_reducible first | apply d_ | apply e_ | apply f_ | apply g_); focus first | omega | (simp only [q_] <;> omega)) | ((with_reducible first | apply i_ | apply h_); focus first | omega | (simp only [q_] <;> omega)) | ((with_reducible apply h_); focus first | decide | kernel_rfl) | refine BCase.t (by decide) ?_ | refine BCase.f (by decide) ?_ | (refine Need.mk (List.cons_ne_nil _ _) ?_) | (refine Need.by 32 rfl (by simp only [List.length_map, List.length_nil, Nat.zero_add]; omega) ?_) | with_reducible first | apply l_ | apply m_ | apply n_ | apply o_ | refine p_ (fun _ => ?_) (fun _ => ?_)) <;> (conv => whnf)))
    exact Ret.mk rfl
theorem s_clonef (l : List FoldD) (lo n : Nat) (h : lo + n ≤ l.length) (hn : n ≠ 0) (hz : l.length ≤ 1000000) : CallS Tryz.prog 57 [.d (.arr FK 54 2 lo n)] [(FK, .arr 54 2 (l.map FoldD.c))] [] (slV 2 FoldD.c ((l.drop lo).take n)) [] := by
  refine callS_of Tryz.func57 (by rfl) rfl (by kernel_rfl) (by rfl) [FK] rfl ?_
  ((conv => whnf); repeat' ((first | (with_reducible first | apply a_ | apply b_ | apply c_) | ((with_reducible first | apply d_ | apply e_ | apply f_ | apply g_); focus first | omega | (simp only [q_] <;> omega)) | ((with_reducible first | apply i_ | apply h_); focus first | omega | (simp only [q_] <;> omega)) | ((with_reducible apply h_); focus first | decide | kernel_rfl) | refine BCase.t (by decide) ?_ | refine BCase.f (by decide) ?_ | (refine Need.mk hn ?_) | (refine Need.mk (by rw [List.length_map]; exact h) ?_) | (refine Need.by 32 rfl (by simp only [List.length_nil, Nat.zero_add]; omega) ?_) | with_reducible first | apply l_ | apply m_ | apply n_ | apply o_ | refine p_ (fun _ => ?_) (fun _ => ?_)) <;> (conv => whnf)))
  refine RetS.mk [(FK, FK)] [FK] rfl rfl ?_ ?_
  · show C.sl 2 _ = C.sl 2 _
    rw [List.map_take, List.map_drop]; rfl
  · exact ⟨⟨rfl, rfl, rfl, rfl⟩, trivial⟩
theorem s_lastf (st : List FoldD) (K : Int) (h0 : 0 ≤ K) (h1 : K ≤ st.length) (hz : st.length ≤ 1000000) : CallS Tryz.prog 57 [.d (.arr FK 54 2 (0 + ((st.length : Int) - K).toNat) (((st.length : Nat) : Int).toNat - ((st.length : Int) - K).toNat))] [(FK, .arr 54 2 (st.map FoldD.c))] [] (slV 2 FoldD.c (st.drop (st.length - K.toNat))) [] := by
  have e1 : 0 + ((st.length : Int) - K).toNat = st.length - K.toNat := by omega
  have e2 : ((st.length : Nat) : Int).toNat - ((st.length : Int) - K).toNat = K.toNat := by omega
  rw [e1, e2]
  by_cases k0 : K = 0
  · subst k0
    rw [show st.drop (st.length - (0 : Int).toNat) = [] from List.drop_of_length_le (by simp)]
    exact (p_clonef [] (by simp)).empty1
  · have := s_clonef st (st.length - K.toNat) K.toNat (by omega) (by omega) hz
    rwa [List.take_of_length_le (by rw [List.length_drop]; omega)] at this
theorem walkG_rv {look : Look} (hL : LookOk look) : ∀ (l : List NodeD) (st us : List ValueD), NIn l → (∀ x ∈ st, RV x) → walkG (nodF look) st l = .ok us → ∀ x ∈ us, RV x
  | [], st, us, _, hs, h => by cases h; exact hs
  | n :: l, st, us, hn, hs, h => by
    rw [walkG_cons] at h
    split at h
    · cases h
    · split at h
      · cases h
      · rename_i x hx
        have h1 := hn n (List.mem_cons_self ..)
        refine walkG_rv hL l _ us (fun m hm => hn m (List.mem_cons_of_mem _ hm)) (fun y hy => ?_) h
        rcases List.mem_append.1 hy with hy | hy
        · exact hs y (List.mem_of_mem_take hy)
        · rw [List.mem_singleton.1 hy]
          unfold nodF at hx
          split at hx
          · cases hx; exact nod_rv hL h1.1 h1.2 fun v hv => (hs v (List.mem_of_mem_drop hv)).2
          · cases hx
theorem walkR_rv {look : Look} (hL : LookOk look) {l : List NodeD} {v : ValueD} (hn : NIn l) (h : walkR (nodF look) l = .ok v) : RV v := by
  unfold walkR at h
  split at h
  · cases h
  · rename_i x hx
    cases h
    exact walkG_rv hL l [] _ hn (fun x hx => by cases hx) hx _ (List.mem_cons_self ..)
  · cases h
noncomputable def foldWF (n : NodeD) (fs : List FoldD) : Except Int FoldD := .ok (foldL n fs)
theorem foldL_ok {n : NodeD} {fs : List FoldD} (h : NIn (catF fs ++ [n])) : (foldL n fs).e.length ≤ (catF fs).length + 1 ∧ NIn (foldL n fs).e := by
  have hl : (catF fs ++ [n]).length = (catF fs).length + 1 := by simp
  unfold foldL
  split
  · exact ⟨by rw [hl]; exact Nat.le_refl _, h⟩
  · unfold pickF
    split
    · rename_i v hv
      split
      · rename_i h0
        have hr := walkR_rv noLook_ok h hv
        refine ⟨by show 1 ≤ _; omega, fun m hm => ?_⟩
        rw [List.mem_singleton.1 hm]
        exact ⟨lit_al hr h0, hr.2⟩
      · exact ⟨by rw [hl]; exact Nat.le_refl _, h⟩
    · exact ⟨by rw [hl]; exact Nat.le_refl _, h⟩
theorem catF_app (a b : List FoldD) : catF (a ++ b) = catF a ++ catF b := by unfold catF; rw [List.flatMap_append]
theorem catF_one (a : FoldD) : catF [a] = a.e := by unfold catF; simp
abbrev fZ : List D := [.c (.v (.slice none 0 0)), .c (.v (.bool false))]
def eFold (r : Except Int FoldD) : PV := match r with
  | .ok f => .tup [fV f, pInt .i64 0]
  | .error x => .tup [fV ⟨[], false⟩, pInt .i64 x]
def wfE (l : List NodeD) (j : Nat) (st : List FoldD) : List (Nat × PV) := [(1, fnV 37), (4, .d (.ptr 4 0)), (6, .d (.ptr 6 0)), (7, .d (.arr 60 54 2 0 st.length)), (13, slV 6 NodeD.c l), (14, pInt .i64 l.length), (15, pInt .i64 j)]
theorem p_walkf (l : List NodeD) (hl : l.length ≤ 900) (hn : NIn l) : Pure Tryz.prog 36 [slV 6 NodeD.c l, fnV 37] (eFold (walkR foldWF l)) := by
  refine pure_of Tryz.func36 (by rfl) rfl (by kernel_rfl) (by rfl) ?_
  have RE : Ret (.tup [.agg fZ, pInt .i64 1]) (eFold (.error 1)) := Ret.le ⟨⟨.inr ⟨⟨6, rfl⟩, .inl rfl⟩, .inl rfl, rfl⟩, .inl rfl, rfl⟩
  ((conv => whnf); repeat' ((first | (with_reducible first | apply a_ | apply b_ | apply c_) | ((with_reducible first | apply d_ | apply e_ | apply f_ | apply g_); focus first | omega | (simp only [q_] <;> omega)) | ((with_reducible first | apply i_ | apply h_); focus first | omega | (simp only [q_] <;> omega)) | ((with_reducible apply h_); focus first | decide | kernel_rfl) | refine BCase.t (by decide) ?_ | refine BCase.f (by decide) ?_ | with_reducible first | apply l_ | apply m_ | apply n_ | apply o_ | refine p_ (fun _ => ?_) (fun _ => ?_)) <;> (conv => whnf)))
  refine LoopC.mk (Nat × List FoldD) (fun s => wfE l s.1 s.2) (fun s => [(4, .box 54 fZ), (6, .box 54 fZ), (60, .arr 54 2 (s.2.map FoldD.c))]) [4, 6, 60] (fun s => s.1 ≤ l.length ∧ s.2.length ≤ s.1 ∧ (catF s.2).length ≤ s.1 ∧ NIn (catF s.2) ∧ walkG foldWF [] l = walkG foldWF s.2 (l.drop s.1)) (fun s => l.length - s.1) (0, []) ⟨Nat.zero_le _, Nat.zero_le _, Nat.zero_le _, (fun m hm => absurd hm (by simp [catF])), rfl⟩ ?start ?round
  case start => exact ⟨[(4, 4), (6, 6)], rfl, rfl, ⟨.inl rfl, ⟨rfl, rfl, rfl⟩, ⟨rfl, rfl, rfl⟩, ⟨rfl, rfl, Nat.zero_lt_succ _, rfl, rfl⟩, .inl rfl, PLe.int (by simp), .inl rfl, trivial⟩, ⟨rfl, rfl, ⟨.inl rfl, .inl rfl, rfl⟩⟩, ⟨rfl, rfl, ⟨.inl rfl, .inl rfl, rfl⟩⟩, ⟨rfl, Nat.zero_lt_succ _, rfl⟩, trivial⟩
  case round =>
    rintro ⟨j, st⟩ ⟨hj, i1, i2, i4, i3⟩
    have hj : j ≤ l.length := hj
    have i1 : st.length ≤ j := i1
    have i2 : (catF st).length ≤ j := i2
    have i4 : NIn (catF st) := i4
    have i3 : walkG foldWF [] l = walkG foldWF st (l.drop j) := i3
    by_cases q : j < l.length
    · rw [List.drop_eq_getElem_cons q, walkG_cons] at i3
      have hm := hn _ (List.getElem_mem q)
      have hkk := alF_kids hm.1
      by_cases g : l[j].Kids < 0 ∨ (st.length : Int) < l[j].Kids
      · rw [if_pos g] at i3
        have hw : walkR foldWF l = .error 1 := by unfold walkR; rw [i3]
        rw [hw]
        ((conv => whnf); repeat' ((first | (with_reducible first | apply a_ | apply b_ | apply c_) | ((with_reducible first | apply d_ | apply e_ | apply f_ | apply g_); focus first | omega | (simp only [q_] <;> omega)) | ((with_reducible first | apply i_ | apply h_); focus first | omega | (simp only [q_] <;> omega)) | ((with_reducible apply h_); focus first | decide | kernel_rfl) | refine BCase.t (by decide) ?_ | refine BCase.f (by decide) ?_ | (refine Idx.mapI j rfl q ?_) | with_reducible first | apply l_ | apply m_ | apply n_ | apply o_ | refine p_ (fun _ => ?_) (fun _ => ?_)) <;> (conv => whnf)))
        all_goals exact RE
      · rw [if_neg g] at i3
        have g1 : ¬ l[j].Kids < 0 := fun q => g (.inl q)
        have g2 : ¬ (st.length : Int) < l[j].Kids := fun q => g (.inr q)
        have pc := s_lastf st l[j].Kids (by omega) (by omega) (by omega)
        have hsp := List.take_append_drop (st.length - l[j].Kids.toNat) st
        obtain ⟨ks, hks⟩ : ∃ ks, ks = st.drop (st.length - l[j].Kids.toNat) := ⟨_, rfl⟩
        obtain ⟨pre, hpre⟩ : ∃ pre, pre = st.take (st.length - l[j].Kids.toNat) := ⟨_, rfl⟩
        rw [← hks, ← hpre] at hsp
        have hcat : (catF pre).length + (catF ks).length = (catF st).length := by rw [← hsp, catF_app, List.length_append]
        have hNk : NIn (catF ks ++ [l[j]]) := by
          intro m hm2
          rcases List.mem_append.1 hm2 with hm2 | hm2
          · exact i4 m (by rw [← hsp, catF_app]; exact List.mem_append_right _ hm2)
          · rw [List.mem_singleton.1 hm2]; exact hm
        have hkl : ks.length ≤ 1000 := by rw [hks, List.length_drop]; omega
        rw [← hks, ← hpre] at i3
        rw [← hks] at pc
        have pd := p_fold l[j] ks (by rw [List.length_append, List.length_singleton]; omega) hkl hNk
        have hfl := foldL_ok hNk
        have i3 : walkG foldWF [] l = walkG foldWF (pre ++ [foldL l[j] ks]) (l.drop (j + 1)) := i3
        ((conv => whnf); repeat' ((first | (with_reducible first | apply a_ | apply b_ | apply c_) | ((with_reducible first | apply d_ | apply e_ | apply f_ | apply g_); focus first | omega | (simp only [q_] <;> omega)) | ((with_reducible first | apply i_ | apply h_); focus first | omega | (simp only [q_] <;> omega)) | ((with_reducible apply h_); focus first | decide | kernel_rfl) | refine BCase.t (by decide) ?_ | refine BCase.f (by decide) ?_ | (refine Idx.mapI j rfl q ?_) | (refine CallP.ret [(FK, 60)] _ _ _ _ _ _ _ pc rfl rfl rfl rfl ⟨rfl, trivial⟩ ?_) | refine CallP.pure _ rfl _ (pd) ?_ | (refine Need.by 32 rfl (by simp only [List.length_singleton]; omega) ?_) | with_reducible first | apply l_ | apply m_ | apply n_ | apply o_ | refine p_ (fun _ => ?_) (fun _ => ?_)) <;> (conv => whnf)))
        refine ⟨(j + 1, pre ++ [foldL l[j] ks]), ⟨by show j + 1 ≤ _; omega, ?_, ?_, ?_, i3⟩, by show l.length - (j + 1) < l.length - j; omega, [(4, 4), (6, 6), (60, 54)], rfl, rfl, ⟨.inl rfl, ⟨rfl, rfl, rfl⟩, ⟨rfl, rfl, rfl⟩, ⟨rfl, rfl, rfl, rfl, rfl, ?_⟩, .inl rfl, .inl rfl, PLe.int rfl, trivial⟩, ⟨rfl, rfl, ⟨.inl rfl, .inl rfl, rfl⟩⟩, ⟨rfl, rfl, ⟨.inl rfl, .inl rfl, rfl⟩⟩, ⟨rfl, rfl, rfl, ?_⟩, trivial⟩
        · show (pre ++ [_]).length ≤ j + 1
          rw [hpre, List.length_append, List.length_take, List.length_singleton]; omega
        · show (catF (pre ++ [_])).length ≤ j + 1
          rw [catF_app, catF_one, List.length_append]
          have := hfl.1
          omega
        · show NIn (catF (pre ++ [_]))
          rw [catF_app, catF_one]
          intro m hm2
          rcases List.mem_append.1 hm2 with hm2 | hm2
          · exact i4 m (by rw [← hsp, catF_app]; exact List.mem_append_left _ hm2)
          · exact hfl.2 m hm2
        · show _ = (pre ++ [_]).length
          rw [hpre, List.length_append, List.length_take, List.length_singleton]; simp only [List.length_singleton]; omega
        · show _ = (pre ++ [_]).map FoldD.c
          rw [hpre, List.map_append, List.map_take]
          have e1 : ((st.length : Int) - l[j].Kids).toNat = st.length - l[j].Kids.toNat := by omega
          show (st.map FoldD.c).take ((st.length : Int) - l[j].Kids).toNat ++ _ = _
          rw [e1]; rfl
    · rw [List.drop_of_length_le (by omega)] at i3
      have i3 : walkG foldWF [] l = .ok st := i3
      rcases st with _ | ⟨x, _ | ⟨y, r⟩⟩
      · have hw : walkR foldWF l = .error 1 := by unfold walkR; rw [i3]
        rw [hw]
        ((conv => whnf); repeat' ((first | (with_reducible first | apply a_ | apply b_ | apply c_) | ((with_reducible first | apply d_ | apply e_ | apply f_ | apply g_); focus first | omega | (simp only [q_] <;> omega)) | ((with_reducible first | apply i_ | apply h_); focus first | omega | (simp only [q_] <;> omega)) | ((with_reducible apply h_); focus first | decide | kernel_rfl) | refine BCase.t (by decide) ?_ | refine BCase.f (by decide) ?_ | with_reducible first | apply l_ | apply m_ | apply n_ | apply o_ | refine p_ (fun _ => ?_) (fun _ => ?_)) <;> (conv => whnf)))
        all_goals exact RE
      · have hw : walkR foldWF l = .ok x := by unfold walkR; rw [i3]
        rw [hw]
        ((conv => whnf); repeat' ((first | (with_reducible first | apply a_ | apply b_ | apply c_) | ((with_reducible first | apply d_ | apply e_ | apply f_ | apply g_); focus first | omega | (simp only [q_] <;> omega)) | ((with_reducible first | apply i_ | apply h_); focus first | omega | (simp only [q_] <;> omega)) | ((with_reducible apply h_); focus first | decide | kernel_rfl) | refine BCase.t (by decide) ?_ | refine BCase.f (by decide) ?_ | with_reducible first | apply l_ | apply m_ | apply n_ | apply o_ | refine p_ (fun _ => ?_) (fun _ => ?_)) <;> (conv => whnf)))
        refine Row.mk _ rfl ?_
        ((conv => whnf); repeat' ((first | (with_reducible first | apply a_ | apply b_ | apply c_) | ((with_reducible first | apply d_ | apply e_ | apply f_ | apply g_); focus first | omega | (simp only [q_] <;> omega)) | ((with_reducible first | apply i_ | apply h_); focus first | omega | (simp only [q_] <;> omega)) | ((with_reducible apply h_); focus first | decide | kernel_rfl) | refine BCase.t (by decide) ?_ | refine BCase.f (by decide) ?_ | with_reducible first | apply l_ | apply m_ | apply n_ | apply o_ | refine p_ (fun _ => ?_) (fun _ => ?_)) <;> (conv => whnf)))
        all_goals exact Ret.eq rfl
      · have hw : walkR foldWF l = .error 1 := by unfold walkR; rw [i3]
        rw [hw]
        ((conv => whnf); repeat' ((first | (with_reducible first | apply a_ | apply b_ | apply c_) | ((with_reducible first | apply d_ | apply e_ | apply f_ | apply g_); focus first | omega | (simp only [q_] <;> omega)) | ((with_reducible first | apply i_ | apply h_); focus first | omega | (simp only [q_] <;> omega)) | ((with_reducible apply h_); focus first | decide | kernel_rfl) | refine BCase.t (by decide) ?_ | refine BCase.f (by decide) ?_ | with_reducible first | apply l_ | apply m_ | apply n_ | apply o_ | refine p_ (fun _ => ?_) (fun _ => ?_)) <;> (conv => whnf)))
        all_goals exact RE
end Go.Proofs.YtggdfnjomonbkaaGreatDoor.Pm
end
section
namespace Go.Proofs.YtggdfnjomonbkaaGreatDoor.Pm
open Go.RowKit K
set_option linter.unusedVariables false
set_option linter.unusedSimpArgs false
set_option maxRecDepth 100000
noncomputable def fdOf (t : Ex) : FoldD := ⟨(foldE t).flat, hasC t⟩
theorem catF_fd : ∀ l : List Ex, catF (l.map fdOf) = Ex.flats (foldEs l)
  | [] => by rw [foldEs, Ex.flats]; rfl
  | t :: l => by rw [foldEs, Ex.flats, ← catF_fd l]; rfl
theorem any_fd : ∀ l : List Ex, (l.map fdOf).any FoldD.cols = hasCs l
  | [] => by rw [hasCs]; rfl
  | t :: l => by rw [hasCs, List.map_cons, List.any_cons, any_fd l]; rfl
theorem lit_flat (v : ValueD) : (litT v).flat = [litN v] := by rw [Ex.flat, Ex.flats]; rfl
theorem foldL_fd {n : NodeD} {ks : List Ex} (hg : (Ex.mk n ks).good) : foldL n (ks.map fdOf) = fdOf (.mk n ks) := by
  have hf : Ex.flats (foldEs ks) ++ [n] = (Ex.mk n (foldEs ks)).flat := by rw [Ex.flat]
  have hg2 : (Ex.mk n (foldEs ks)).good := by
    rw [Ex.good] at hg ⊢
    rw [foldEs_len]
    exact ⟨hg.1, foldEs_good ks hg.2⟩
  unfold foldL
  rw [show fdOf (.mk n ks) = ⟨(foldE (.mk n ks)).flat, hasC (.mk n ks)⟩ from rfl]
  rw [catF_fd, any_fd, hf, walkR_fold _ _ hg2, foldE, hasC]
  unfold foldN
  cases h : decide (n.Op = 2) || hasCs ks with
  | true => rw [if_pos rfl, if_pos rfl]
  | false =>
    rw [if_neg (by simp), if_neg (by simp)]
    cases foldX (nodF noLook) (Ex.mk n (foldEs ks)) with
    | error x => rfl
    | ok v =>
      show (if 0 ≤ v.N then _ else _) = FoldD.mk (Ex.flat (if 0 ≤ v.N then _ else _)) false
      split
      · rw [lit_flat]
      · rfl
mutual
theorem foldX_fd : ∀ t : Ex, t.good → foldX foldWF t = .ok (fdOf t)
  | .mk n ks, h => by
    have h0 := h
    rw [Ex.good] at h
    rw [foldX, foldXs_fd ks h.2]
    show Except.ok (foldL n (ks.map fdOf)) = _
    rw [foldL_fd h0]
theorem foldXs_fd : ∀ l : List Ex, Ex.goods l → foldXs foldWF l = .ok (l.map fdOf)
  | [], _ => by rw [foldXs]; rfl
  | t :: l, h => by
    rw [Ex.goods] at h
    rw [foldXs, foldX_fd t h.1, foldXs_fd l h.2]; rfl
end
noncomputable def foldA (e : List NodeD) : List NodeD × Int := if checkF e ≠ 0 then ([], checkF e) else match walkR foldWF e with
  | .ok f => (f.e, 0)
  | .error _ => ([], 0)
theorem foldA_tree {t : Ex} (h : RightT t) : foldA t.flat = ((foldE t).flat, 0) := by
  unfold foldA
  rw [check_right h, if_neg (by decide), walkR_fold _ _ h.good, foldX_fd t h.good]; rfl
theorem p_Fold (e : List NodeD) (hn : ∀ n ∈ e, hNode n) : Pure Tryz.prog 17 [slV 6 NodeD.c e] (.tup [slV 6 NodeD.c (foldA e).1, pInt .i64 (foldA e).2]) := by
  have pc := p_echeck e (fun n h => (hn n h).1)
  refine pure_of Tryz.func17 (by rfl) rfl (by kernel_rfl) (by rfl) ?_
  unfold foldA
  by_cases h : checkF e = 0
  · rw [if_neg (by rw [h]; decide)]
    rw [h] at pc
    obtain ⟨h5, h6⟩ := check_all h
    have pr := p_walkf e (by omega) (fun n hm => ⟨h6 n hm, (hn n hm).2⟩)
    obtain ⟨t, ht, rfl⟩ := right_of h
    rw [walkR_fold _ _ ht.good, foldX_fd t ht.good] at pr ⊢
    have pr : Pure _ _ _ (.tup [fV (fdOf t), pInt .i64 0]) := pr
    ((conv => whnf); repeat' ((first | (with_reducible first | apply a_ | apply b_ | apply c_) | ((with_reducible first | apply d_ | apply e_ | apply f_ | apply g_); focus first | omega | (simp only [q_] <;> omega)) | ((with_reducible first | apply i_ | apply h_); focus first | omega | (simp only [q_] <;> omega)) | ((with_reducible apply h_); focus first | decide | kernel_rfl) | refine BCase.t (by decide) ?_ | refine BCase.f (by decide) ?_ | refine CallP.pure _ rfl _ (pc) ?_ | refine CallP.pure _ rfl _ (pr) ?_ | with_reducible first | apply l_ | apply m_ | apply n_ | apply o_ | refine p_ (fun _ => ?_) (fun _ => ?_)) <;> (conv => whnf)))
    exact Ret.eq rfl
  · rw [if_pos h]
    ((conv => whnf); repeat' ((first | (with_reducible first | apply a_ | apply b_ | apply c_) | ((with_reducible first | apply d_ | apply e_ | apply f_ | apply g_); focus first | omega | (simp only [q_] <;> omega)) | ((with_reducible first | apply i_ | apply h_); focus first | omega | (simp only [q_] <;> omega)) | ((with_reducible apply h_); focus first | decide | kernel_rfl) | refine BCase.t (by decide) ?_ | refine BCase.f (by decide) ?_ | refine CallP.pure _ rfl _ (pc) ?_ | with_reducible first | apply l_ | apply m_ | apply n_ | apply o_ | refine p_ (fun _ => ?_) (fun _ => ?_)) <;> (conv => whnf)))
    all_goals first | exact Ret.le ⟨.inr ⟨⟨6, rfl⟩, .inl rfl⟩, .inl rfl, rfl⟩ | (exfalso; omega)
theorem p_valueof0 (t : Ex) (hg : t.good) (hn : NInT t) (hl : t.flat.length ≤ 1000) : Pure Tryz.prog 26 [slV 6 NodeD.c t.flat, .d (.c (.v (.slice none 0 0))), .d (.c (.v (.slice none 0 0)))] (eVal (foldX (nodF noLook) t)) := by
  have h := p_valueof [] [] rfl (by simp) (fun v h => by cases h) _ t (Nat.le_refl _) hg hn hl
  rw [show lookC [] [] = noLook from rfl] at h
  refine h.le ⟨?_, ?_, ?_, rfl⟩
  · exact .inl rfl
  · exact .inr ⟨⟨1, rfl⟩, .inl rfl⟩
  · exact .inr ⟨⟨3, rfl⟩, .inl rfl⟩
theorem foldEs_snoc {ks : List Ex} {j : Nat} (q : j < ks.length) : Ex.flats (foldEs (ks.take (j + 1))) = Ex.flats (foldEs (ks.take j)) ++ (foldE ks[j]).flat := by
  rw [take_snoc q, foldEs_map, foldEs_map, List.map_append, Ex.flats_append]
  show _ ++ Ex.flats [foldE ks[j]] = _
  rw [Ex.flats_one]
theorem p_foldof : ∀ (N : Nat) (t : Ex), t.flat.length ≤ N → t.good → NInT t → t.flat.length ≤ 1000 →
    Pure Tryz.prog 19 [slV 6 NodeD.c t.flat] (slV 6 NodeD.c (foldE t).flat)
  | 0, t, hN, hg, hn, hl => by have := t.flat_pos; omega
  | N + 1, .mk n ks, hN, hg, hn, hl => by
    have hg0 := hg
    rw [Ex.good] at hg
    obtain ⟨hk, hgs⟩ := hg
    have hlen : (Ex.mk n ks).flat.length = (Ex.flats ks).length + 1 := by rw [Ex.flat, List.length_append, List.length_singleton]
    have hkb := len_le_flats ks
    have pv := p_valueof0 _ hg0 hn hl
    have pc := p_hascols (Ex.mk n ks).flat (by omega)
    rw [← hasC_flat] at pc
    have hval : foldX (nodF noLook) (.mk n (foldEs ks)) = foldX (nodF noLook) (.mk n ks) := by rw [foldX, foldX, foldEs_val]
    have hfl : (Ex.mk n (foldEs ks)).flat = Ex.flats (foldEs ks) ++ [n] := by rw [Ex.flat]
    rw [foldE]
    obtain ⟨e, he⟩ : ∃ e, e = (Ex.mk n ks).flat := ⟨_, rfl⟩
    have pk := p_exprkids n ks hg0 e he.symm (by rw [he]; exact hl)
    have he2 := root_at (n := n) (ks := ks) (e := e) (pre := []) (post := []) (by rw [he]; simp)
    obtain ⟨hr1, hr2⟩ := root_get he2
    have hel : e.length = (Ex.flats ks).length + 1 := by rw [he, hlen]
    have hml : (e.map NodeD.c).length = (Ex.flats ks).length + 1 := by rw [List.length_map, hel]
    have hpl : ([] ++ Ex.flats ks).length = (Ex.flats ks).length := rfl
    rw [← he] at hl hN pv pc ⊢
    refine pure_of Tryz.func19 (by rfl) rfl (by kernel_rfl) (by rfl) ?_
    unfold foldN
    cases hc : hasC (.mk n ks) with
    | true =>
      rw [if_pos rfl, hfl]
      rw [hc] at pc
      ((conv => whnf); repeat' ((first | (with_reducible first | apply a_ | apply b_ | apply c_) | ((with_reducible first | apply d_ | apply e_ | apply f_ | apply g_); focus first | omega | (simp only [q_] <;> omega)) | ((with_reducible first | apply i_ | apply h_); focus first | omega | (simp only [q_] <;> omega)) | ((with_reducible apply h_); focus first | decide | kernel_rfl) | refine BCase.t (by decide) ?_ | refine BCase.f (by decide) ?_ | refine CallP.pure _ rfl _ (pc) ?_ | refine CallP.pure _ rfl _ (pk) ?_ | with_reducible first | apply l_ | apply m_ | apply n_ | apply o_ | refine p_ (fun _ => ?_) (fun _ => ?_)) <;> (conv => whnf)))
      refine LoopC.mk Nat (fun j => [(0, slV 6 NodeD.c e), (5, .d (.app 60 37 6 ((Ex.flats (foldEs (ks.take j))).map NodeD.c))), (6, .d (.c (.sl 1 (ks.map fun k => ek k.flat)))), (7, pInt .i64 j)]) (fun _ => [(60, .tail 37 6)]) [60] (fun j => j ≤ ks.length) (fun j => ks.length - j) 0 (Nat.zero_le _) ?s1 ?r1
      case s1 => exact ⟨[], rfl, rfl, ⟨.inl rfl, ⟨rfl, rfl, Nat.zero_lt_succ _, by rw [List.take_zero, foldEs, Ex.flats]; rfl, rfl⟩, .inl rfl, .inl rfl, trivial⟩, ⟨rfl, Nat.zero_lt_succ _⟩, trivial⟩
      case r1 =>
        intro j hj
        have hj : j ≤ ks.length := hj
        by_cases q : j < ks.length
        · have hm := List.getElem_mem q
          have hfl2 := flat_le_flats hm
          have pf := p_foldof N ks[j] (by omega) (Ex.goods_mem hgs _ hm) (nInT_kid hn _ hm) (by omega)
          have e1 := foldEs_snoc q
          have e2 : (Ex.flats (foldEs (ks.take (j + 1)))).length ≤ (Ex.flats ks).length := by
            have h1 := foldEs_short (ks.take (j + 1))
            have h2 := flats_part q
            rw [← flats_snoc q] at h2
            rw [h2, List.length_append]; omega
          rw [e1, List.length_append] at e2
          ((conv => whnf); repeat' ((first | (with_reducible first | apply a_ | apply b_ | apply c_) | ((with_reducible first | apply d_ | apply e_ | apply f_ | apply g_); focus first | omega | (simp only [q_] <;> omega)) | ((with_reducible first | apply i_ | apply h_); focus first | omega | (simp only [q_] <;> omega)) | ((with_reducible apply h_); focus first | decide | kernel_rfl) | refine BCase.t (by decide) ?_ | refine BCase.f (by decide) ?_ | (refine Idx.mapI (f := fun k => ek k.flat) j rfl q ?_) | refine CallP.pure _ rfl _ (pf) ?_ | (refine Need.by 64 rfl (by simp only [List.length_map]; omega) ?_) | with_reducible first | apply l_ | apply m_ | apply n_ | apply o_ | refine p_ (fun _ => ?_) (fun _ => ?_)) <;> (conv => whnf)))
          exact ⟨j + 1, by show j + 1 ≤ _; omega, by omega, [(60, 40)], rfl, rfl, ⟨.inl rfl, ⟨rfl, rfl, rfl, rfl, by rw [e1, List.map_append]⟩, .inl rfl, PLe.int (by omega), trivial⟩, ⟨rfl, rfl, rfl⟩, trivial⟩
        · rw [List.take_of_length_le (by omega)]
          have hs := foldEs_short ks
          ((conv => whnf); repeat' ((first | (with_reducible first | apply a_ | apply b_ | apply c_) | ((with_reducible first | apply d_ | apply e_ | apply f_ | apply g_); focus first | omega | (simp only [q_] <;> omega)) | ((with_reducible first | apply i_ | apply h_); focus first | omega | (simp only [q_] <;> omega)) | ((with_reducible apply h_); focus first | decide | kernel_rfl) | refine BCase.t (by decide) ?_ | refine BCase.f (by decide) ?_ | (refine Idx.mapE ([] ++ Ex.flats ks).length (by omega) hr1 hr2 ?_) | (refine Need.by 64 rfl (by simp only [List.length_map, List.length_singleton]; omega) ?_) | with_reducible first | apply l_ | apply m_ | apply n_ | apply o_ | refine p_ (fun _ => ?_) (fun _ => ?_)) <;> (conv => whnf)))
          refine Ret.eq ?_
          show _ = PV.d (.c (.sl 6 ((Ex.flats (foldEs ks) ++ [n]).map NodeD.c)))
          rw [List.map_append]; rfl
    | false =>
      rw [if_neg (by simp), hval]
      rw [hc] at pc
      cases hx : foldX (nodF noLook) (Ex.mk n ks) with
      | error x =>
        rw [hx] at pv
        have pv : Pure _ _ _ (.tup [vV noV, pInt .i64 x]) := pv
        have h0 := foldX_err _ hx
        simp only []
        rw [hfl]
        ((conv => whnf); repeat' ((first | (with_reducible first | apply a_ | apply b_ | apply c_) | ((with_reducible first | apply d_ | apply e_ | apply f_ | apply g_); focus first | omega | (simp only [q_] <;> omega)) | ((with_reducible first | apply i_ | apply h_); focus first | omega | (simp only [q_] <;> omega)) | ((with_reducible apply h_); focus first | decide | kernel_rfl) | refine BCase.t (by decide) ?_ | refine BCase.f (by decide) ?_ | refine CallP.pure _ rfl _ (pc) ?_ | refine CallP.pure _ rfl _ (pv) ?_ | refine CallP.pure _ rfl _ (pk) ?_ | with_reducible first | apply l_ | apply m_ | apply n_ | apply o_ | refine p_ (fun _ => ?_) (fun _ => ?_)) <;> (conv => whnf)))
        refine LoopC.mk Nat (fun j => [(0, slV 6 NodeD.c e), (5, .d (.app 60 37 6 ((Ex.flats (foldEs (ks.take j))).map NodeD.c))), (6, .d (.c (.sl 1 (ks.map fun k => ek k.flat)))), (7, pInt .i64 j)]) (fun _ => [(60, .tail 37 6)]) [60] (fun j => j ≤ ks.length) (fun j => ks.length - j) 0 (Nat.zero_le _) ?s2 ?r2
        case s2 => exact ⟨[], rfl, rfl, ⟨.inl rfl, ⟨rfl, rfl, Nat.zero_lt_succ _, by rw [List.take_zero, foldEs, Ex.flats]; rfl, rfl⟩, .inl rfl, .inl rfl, trivial⟩, ⟨rfl, Nat.zero_lt_succ _⟩, trivial⟩
        case r2 =>
          intro j hj
          have hj : j ≤ ks.length := hj
          by_cases q : j < ks.length
          · have hm := List.getElem_mem q
            have hfl2 := flat_le_flats hm
            have pf := p_foldof N ks[j] (by omega) (Ex.goods_mem hgs _ hm) (nInT_kid hn _ hm) (by omega)
            have e1 := foldEs_snoc q
            have e2 : (Ex.flats (foldEs (ks.take (j + 1)))).length ≤ (Ex.flats ks).length := by
              have h1 := foldEs_short (ks.take (j + 1))
              have h2 := flats_part q
              rw [← flats_snoc q] at h2
              rw [h2, List.length_append]; omega
            rw [e1, List.length_append] at e2
            ((conv => whnf); repeat' ((first | (with_reducible first | apply a_ | apply b_ | apply c_) | ((with_reducible first | apply d_ | apply e_ | apply f_ | apply g_); focus first | omega | (simp only [q_] <;> omega)) | ((with_reducible first | apply i_ | apply h_); focus first | omega | (simp only [q_] <;> omega)) | ((with_reducible apply h_); focus first | decide | kernel_rfl) | refine BCase.t (by decide) ?_ | refine BCase.f (by decide) ?_ | (refine Idx.mapI (f := fun k => ek k.flat) j rfl q ?_) | refine CallP.pure _ rfl _ (pf) ?_ | (refine Need.by 64 rfl (by simp only [List.length_map]; omega) ?_) | with_reducible first | apply l_ | apply m_ | apply n_ | apply o_ | refine p_ (fun _ => ?_) (fun _ => ?_)) <;> (conv => whnf)))
            exact ⟨j + 1, by show j + 1 ≤ _; omega, by omega, [(60, 40)], rfl, rfl, ⟨.inl rfl, ⟨rfl, rfl, rfl, rfl, by rw [e1, List.map_append]⟩, .inl rfl, PLe.int (by omega), trivial⟩, ⟨rfl, rfl, rfl⟩, trivial⟩
          · rw [List.take_of_length_le (by omega)]
            have hs := foldEs_short ks
            ((conv => whnf); repeat' ((first | (with_reducible first | apply a_ | apply b_ | apply c_) | ((with_reducible first | apply d_ | apply e_ | apply f_ | apply g_); focus first | omega | (simp only [q_] <;> omega)) | ((with_reducible first | apply i_ | apply h_); focus first | omega | (simp only [q_] <;> omega)) | ((with_reducible apply h_); focus first | decide | kernel_rfl) | refine BCase.t (by decide) ?_ | refine BCase.f (by decide) ?_ | (refine Idx.mapE ([] ++ Ex.flats ks).length (by omega) hr1 hr2 ?_) | (refine Need.by 64 rfl (by simp only [List.length_map, List.length_singleton]; omega) ?_) | with_reducible first | apply l_ | apply m_ | apply n_ | apply o_ | refine p_ (fun _ => ?_) (fun _ => ?_)) <;> (conv => whnf)))
            refine Ret.eq ?_
            show _ = PV.d (.c (.sl 6 ((Ex.flats (foldEs ks) ++ [n]).map NodeD.c)))
            rw [List.map_append]; rfl
      | ok v =>
        rw [hx] at pv
        have pv : Pure _ _ _ (.tup [vV v, pInt .i64 0]) := pv
        simp only []
        by_cases h0 : 0 ≤ v.N
        · rw [if_pos h0, lit_flat]
          ((conv => whnf); repeat' ((first | (with_reducible first | apply a_ | apply b_ | apply c_) | ((with_reducible first | apply d_ | apply e_ | apply f_ | apply g_); focus first | omega | (simp only [q_] <;> omega)) | ((with_reducible first | apply i_ | apply h_); focus first | omega | (simp only [q_] <;> omega)) | ((with_reducible apply h_); focus first | decide | kernel_rfl) | refine BCase.t (by decide) ?_ | refine BCase.f (by decide) ?_ | refine CallP.pure _ rfl _ (pc) ?_ | refine CallP.pure _ rfl _ (pv) ?_ | refine CallP.pure _ rfl _ (pk) ?_ | with_reducible first | apply l_ | apply m_ | apply n_ | apply o_ | refine p_ (fun _ => ?_) (fun _ => ?_)) <;> (conv => whnf)))
          all_goals first | exact Ret.eq rfl | (exfalso; omega)
        · rw [if_neg h0, hfl]
          ((conv => whnf); repeat' ((first | (with_reducible first | apply a_ | apply b_ | apply c_) | ((with_reducible first | apply d_ | apply e_ | apply f_ | apply g_); focus first | omega | (simp only [q_] <;> omega)) | ((with_reducible first | apply i_ | apply h_); focus first | omega | (simp only [q_] <;> omega)) | ((with_reducible apply h_); focus first | decide | kernel_rfl) | refine BCase.t (by decide) ?_ | refine BCase.f (by decide) ?_ | refine CallP.pure _ rfl _ (pc) ?_ | refine CallP.pure _ rfl _ (pv) ?_ | refine CallP.pure _ rfl _ (pk) ?_ | with_reducible first | apply l_ | apply m_ | apply n_ | apply o_ | refine p_ (fun _ => ?_) (fun _ => ?_)) <;> (conv => whnf)))
          refine LoopC.mk Nat (fun j => [(0, slV 6 NodeD.c e), (5, .d (.app 60 37 6 ((Ex.flats (foldEs (ks.take j))).map NodeD.c))), (6, .d (.c (.sl 1 (ks.map fun k => ek k.flat)))), (7, pInt .i64 j)]) (fun _ => [(60, .tail 37 6)]) [60] (fun j => j ≤ ks.length) (fun j => ks.length - j) 0 (Nat.zero_le _) ?s3 ?r3
          case s3 => exact ⟨[], rfl, rfl, ⟨.inl rfl, ⟨rfl, rfl, Nat.zero_lt_succ _, by rw [List.take_zero, foldEs, Ex.flats]; rfl, rfl⟩, .inl rfl, .inl rfl, trivial⟩, ⟨rfl, Nat.zero_lt_succ _⟩, trivial⟩
          case r3 =>
            intro j hj
            have hj : j ≤ ks.length := hj
            by_cases q : j < ks.length
            · have hm := List.getElem_mem q
              have hfl2 := flat_le_flats hm
              have pf := p_foldof N ks[j] (by omega) (Ex.goods_mem hgs _ hm) (nInT_kid hn _ hm) (by omega)
              have e1 := foldEs_snoc q
              have e2 : (Ex.flats (foldEs (ks.take (j + 1)))).length ≤ (Ex.flats ks).length := by
                have h1 := foldEs_short (ks.take (j + 1))
                have h2 := flats_part q
                rw [← flats_snoc q] at h2
                rw [h2, List.length_append]; omega
              rw [e1, List.length_append] at e2
              ((conv => whnf); repeat' ((first | (with_reducible first | apply a_ | apply b_ | apply c_) | ((with_reducible first | apply d_ | apply e_ | apply f_ | apply g_); focus first | omega | (simp only [q_] <;> omega)) | ((with_reducible first | apply i_ | apply h_); focus first | omega | (simp only [q_] <;> omega)) | ((with_reducible apply h_); focus first | decide | kernel_rfl) | refine BCase.t (by decide) ?_ | refine BCase.f (by decide) ?_ | (refine Idx.mapI (f := fun k => ek k.flat) j rfl q ?_) | refine CallP.pure _ rfl _ (pf) ?_ | (refine Need.by 64 rfl (by simp only [List.length_map]; omega) ?_) | with_reducible first | apply l_ | apply m_ | apply n_ | apply o_ | refine p_ (fun _ => ?_) (fun _ => ?_)) <;> (conv => whnf)))
              exact ⟨j + 1, by show j + 1 ≤ _; omega, by omega, [(60, 40)], rfl, rfl, ⟨.inl rfl, ⟨rfl, rfl, rfl, rfl, by rw [e1, List.map_append]⟩, .inl rfl, PLe.int (by omega), trivial⟩, ⟨rfl, rfl, rfl⟩, trivial⟩
            · rw [List.take_of_length_le (by omega)]
              have hs := foldEs_short ks
              ((conv => whnf); repeat' ((first | (with_reducible first | apply a_ | apply b_ | apply c_) | ((with_reducible first | apply d_ | apply e_ | apply f_ | apply g_); focus first | omega | (simp only [q_] <;> omega)) | ((with_reducible first | apply i_ | apply h_); focus first | omega | (simp only [q_] <;> omega)) | ((with_reducible apply h_); focus first | decide | kernel_rfl) | refine BCase.t (by decide) ?_ | refine BCase.f (by decide) ?_ | (refine Idx.mapE ([] ++ Ex.flats ks).length (by omega) hr1 hr2 ?_) | (refine Need.by 64 rfl (by simp only [List.length_map, List.length_singleton]; omega) ?_) | with_reducible first | apply l_ | apply m_ | apply n_ | apply o_ | refine p_ (fun _ => ?_) (fun _ => ?_)) <;> (conv => whnf)))
              refine Ret.eq ?_
              show _ = PV.d (.c (.sl 6 ((Ex.flats (foldEs ks) ++ [n]).map NodeD.c)))
              rw [List.map_append]; rfl
end Go.Proofs.YtggdfnjomonbkaaGreatDoor.Pm
end
section
namespace Go.Proofs.YtggdfnjomonbkaaGreatDoor.Pm
open Go.RowKit K
set_option linter.unusedVariables false
set_option linter.unusedSimpArgs false
set_option maxRecDepth 100000
mutual
theorem kids_pos : ∀ (t : Ex), t.good → ∀ n ∈ t.flat, 0 ≤ n.Kids
  | .mk m ks, hg, n, hn => by
    rw [Ex.good] at hg
    rw [Ex.flat, List.mem_append] at hn
    rcases hn with hn | hn
    · exact kids_poss ks hg.2 n hn
    · rw [List.mem_singleton.1 hn, hg.1]; omega
theorem kids_poss : ∀ (l : List Ex), Ex.goods l → ∀ n ∈ Ex.flats l, 0 ≤ n.Kids
  | [], _, n, hn => by rw [Ex.flats] at hn; cases hn
  | t :: l, hg, n, hn => by
    rw [Ex.goods] at hg
    rw [Ex.flats, List.mem_append] at hn
    rcases hn with hn | hn
    · exact kids_pos t hg.1 n hn
    · exact kids_poss l hg.2 n hn
end
theorem bal_le : ∀ (l : List NodeD), (∀ n ∈ l, 0 ≤ n.Kids) → bal l ≤ l.length
  | [], _ => by simp [bal]
  | n :: l, h => by
    have h1 := h n (List.mem_cons_self ..)
    have h2 := bal_le l fun m hm => h m (List.mem_cons_of_mem _ hm)
    rw [bal, List.length_cons]; omega
theorem bal_step {l : List NodeD} {m : Nat} (h : m < l.length) : bal (l.take (m + 1)) = bal (l.take m) + 1 - l[m].Kids := by
  rw [take_snoc h, bal_app]
  simp only [bal]; omega
theorem bal_in {t : Ex} (ht : t.good) {m : Nat} (hm : m ≤ t.flat.length) : 0 ≤ bal (t.flat.take m) ∧ bal (t.flat.take m) ≤ m ∧ (0 < bal (t.flat.take m) ↔ 0 < m) := by
  have h1 := back_pos ht hm
  have h2 := bal_le (t.flat.take m) fun n hn => kids_pos t ht n (List.mem_of_mem_take hn)
  rw [List.length_take, Nat.min_eq_left hm] at h2
  refine ⟨?_, h2, h1⟩
  rcases Nat.eq_zero_or_pos m with rfl | h0
  · simp [bal]
  · have := h1.2 h0; omega
def nilR : List C := [.v (.slice none 0 0)]
def splR (ks : List Ex) (k : Nat) : List (List C) := List.replicate (ks.length - k) nilR ++ (ks.drop (ks.length - k)).map fun k => ek k.flat
theorem splR_step {ks : List Ex} {k : Nat} (h : k < ks.length) {r : List C} (hr : r = ek ks[ks.length - (k + 1)].flat) : (splR ks k).set (ks.length - (k + 1)) r = splR ks (k + 1) := by
  subst hr
  unfold splR
  rw [show ks.length - k = (ks.length - (k + 1)) + 1 by omega, List.replicate_succ', List.append_assoc, List.set_append_right _ _ (by simp), List.length_replicate, Nat.sub_self]
  conv => rhs; rw [List.drop_eq_getElem_cons (by omega : ks.length - (k + 1) < ks.length)]
  rfl
theorem splR_len (ks : List Ex) (k : Nat) (h : k ≤ ks.length) : (splR ks k).length = ks.length := by
  unfold splR
  rw [List.length_append, List.length_replicate, List.length_map, List.length_drop]; omega
theorem splR_row {ks : List Ex} {k : Nat} (h : k < ks.length) : (splR ks k)[ks.length - (k + 1)]? = some nilR := by
  unfold splR
  rw [List.getElem?_append_left (by rw [List.length_replicate]; omega), List.getElem?_replicate, if_pos (by omega)]
theorem p_split (n : NodeD) (ks : List Ex) (hg : (Ex.mk n ks).good) (e : List NodeD) (he : (Ex.mk n ks).flat = e) (hl : e.length ≤ 1000) : Pure Tryz.prog 60 [slV 6 NodeD.c e] (.d (.c (.sl 1 (ks.map fun k => ek k.flat)))) := by
  have hg0 := hg
  rw [Ex.good] at hg0
  obtain ⟨hk, hgs⟩ := hg0
  have hlen : e.length = (Ex.flats ks).length + 1 := by rw [← he, Ex.flat, List.length_append, List.length_singleton]
  have hml : (e.map NodeD.c).length = (Ex.flats ks).length + 1 := by rw [List.length_map, hlen]
  have he2 := root_at (n := n) (ks := ks) (e := e) (pre := []) (post := []) (by rw [he]; simp)
  obtain ⟨hr1, hr2⟩ := root_get he2
  have hpl : ([] ++ Ex.flats ks).length = (Ex.flats ks).length := rfl
  have hkb := len_le_flats ks
  have hsp : Ex.flats ks = Ex.flats (ks.take ks.length) := by rw [List.take_length]
  refine pure_of Tryz.func60 (by rfl) rfl (by kernel_rfl) (by rfl) ?_
  ((conv => whnf); repeat' ((first | (with_reducible first | apply a_ | apply b_ | apply c_) | ((with_reducible first | apply d_ | apply e_ | apply f_ | apply g_); focus first | omega | (simp only [q_] <;> omega)) | ((with_reducible first | apply i_ | apply h_); focus first | omega | (simp only [q_] <;> omega)) | ((with_reducible apply h_); focus first | decide | kernel_rfl) | refine BCase.t (by decide) ?_ | refine BCase.f (by decide) ?_ | (refine Idx.mapE ([] ++ Ex.flats ks).length (by omega) hr1 hr2 ?_) | with_reducible first | apply l_ | apply m_ | apply n_ | apply o_ | refine p_ (fun _ => ?_) (fun _ => ?_)) <;> (conv => whnf)))
  refine Need.mk ⟨by omega, rfl, (by show (24 : Int) * _ ≤ _; omega), by omega⟩ ?_
  ((conv => whnf); repeat' ((first | (with_reducible first | apply a_ | apply b_ | apply c_) | ((with_reducible first | apply d_ | apply e_ | apply f_ | apply g_); focus first | omega | (simp only [q_] <;> omega)) | ((with_reducible first | apply i_ | apply h_); focus first | omega | (simp only [q_] <;> omega)) | ((with_reducible apply h_); focus first | decide | kernel_rfl) | refine BCase.t (by decide) ?_ | refine BCase.f (by decide) ?_ | with_reducible first | apply l_ | apply m_ | apply n_ | apply o_ | refine p_ (fun _ => ?_) (fun _ => ?_)) <;> (conv => whnf)))
  refine LoopC.mk Nat (fun k => [(4, slV 6 NodeD.c (Ex.flats (ks.take (ks.length - k)))), (5, .d (.arr 60 22 1 0 ks.length)), (6, pInt .i64 ((ks.length : Int) - 1 - k))]) (fun k => [(60, .arr 22 1 (splR ks k))]) [60] (fun k => k ≤ ks.length) (fun k => ks.length - k) 0 (Nat.zero_le _) ?start ?round
  case start =>
    refine ⟨[(60, 22)], rfl, rfl, ⟨?_, ⟨rfl, rfl, rfl, rfl, rfl, ?_⟩, PLe.int (by omega), trivial⟩, ⟨rfl, rfl, rfl, ?_⟩, trivial⟩
    · have e1 : ((e.map NodeD.c).drop 0).take ((((e.map NodeD.c).length : Int) - 1).toNat - 0) = (Ex.flats ks).map NodeD.c := by
        rw [List.drop_zero, hml, show ((((Ex.flats ks).length + 1 : Nat) : Int) - 1).toNat - 0 = (Ex.flats ks).length by omega, he2, List.nil_append, List.map_append, List.take_left' (by rw [List.length_map])]
      exact .inl (congrArg (C.sl 6) (e1.trans (by rw [Nat.sub_zero, ← hsp])))
    · omega
    · show List.replicate _ nilR = _
      unfold splR
      rw [Nat.sub_zero, List.drop_length, List.map_nil, List.append_nil, show n.Kids.toNat = ks.length by omega]
  case round =>
    intro k hk2
    have hk2 : k ≤ ks.length := hk2
    by_cases q : k < ks.length
    · have hi : ks.length - (k + 1) < ks.length := by omega
      have hm := List.getElem_mem hi
      have hkg := Ex.goods_mem hgs _ hm
      have hfl := flat_le_flats hm
      have hs := flats_snoc hi
      rw [show ks.length - (k + 1) + 1 = ks.length - k by omega] at hs
      have hsl : (Ex.flats (ks.take (ks.length - k))).length ≤ (Ex.flats ks).length := by
        have := flats_part hi
        rw [show ks.length - (k + 1) + 1 = ks.length - k by omega] at this
        rw [this, hs]; simp
      obtain ⟨pre, hpre⟩ : ∃ R, R = Ex.flats (ks.take (ks.length - (k + 1))) := ⟨_, rfl⟩
      obtain ⟨t, ht⟩ : ∃ t, t = ks[ks.length - (k + 1)] := ⟨_, rfl⟩
      rw [← ht] at hs hkg hfl
      rw [← hpre] at hs
      have hRl : (Ex.flats (ks.take (ks.length - k))).length = pre.length + t.flat.length := by rw [hs, List.length_append]
      ((conv => whnf); repeat' ((first | (with_reducible first | apply a_ | apply b_ | apply c_) | ((with_reducible first | apply d_ | apply e_ | apply f_ | apply g_); focus first | omega | (simp only [q_] <;> omega)) | ((with_reducible first | apply i_ | apply h_); focus first | omega | (simp only [q_] <;> omega)) | ((with_reducible apply h_); focus first | decide | kernel_rfl) | refine BCase.t (by decide) ?_ | refine BCase.f (by decide) ?_ | with_reducible first | apply l_ | apply m_ | apply n_ | apply o_ | refine p_ (fun _ => ?_) (fun _ => ?_)) <;> (conv => whnf)))
      refine LoopC.mk Nat (fun r => [(4, slV 6 NodeD.c (Ex.flats (ks.take (ks.length - k)))), (5, .d (.arr 60 22 1 0 ks.length)), (6, pInt .i64 ((ks.length : Int) - 1 - k)), (7, pInt .i64 ((pre.length + (t.flat.length - r) : Nat) : Int)), (8, pInt .i64 (bal (t.flat.take (t.flat.length - r))))]) (fun _ => [(60, .arr 22 1 (splR ks k))]) [60] (fun r => r ≤ t.flat.length) (fun r => t.flat.length - r) 0 (Nat.zero_le _) ?s2 ?r2
      case s2 => exact ⟨[(60, 60)], rfl, rfl, ⟨.inl rfl, ⟨rfl, rfl, rfl, rfl, rfl, rfl⟩, .inl rfl, PLe.int (by simp only [List.length_map]; omega), PLe.int (by rw [Nat.sub_zero, List.take_length, bal_flat t hkg]), trivial⟩, ⟨rfl, rfl, rfl, rfl⟩, trivial⟩
      case r2 =>
        intro r hr
        have hr : r ≤ t.flat.length := hr
        by_cases q2 : r < t.flat.length
        · have hb1 := bal_in hkg (m := t.flat.length - r) (by omega)
          have hb2 := bal_in hkg (m := t.flat.length - (r + 1)) (by omega)
          have hb3 := bal_step (l := t.flat) (m := t.flat.length - (r + 1)) (by omega)
          rw [show t.flat.length - (r + 1) + 1 = t.flat.length - r by omega] at hb3
          have hb4 := hb1.2.2.2 (by omega)
          have hlt : pre.length + (t.flat.length - (r + 1)) < (Ex.flats (ks.take (ks.length - k))).length := by omega
          have hget : (Ex.flats (ks.take (ks.length - k)))[pre.length + (t.flat.length - (r + 1))] = t.flat[t.flat.length - (r + 1)] := by
            have : (Ex.flats (ks.take (ks.length - k)))[pre.length + (t.flat.length - (r + 1))]? = some t.flat[t.flat.length - (r + 1)] := by
              rw [hs, List.getElem?_append_right (by omega), Nat.add_sub_cancel_left, List.getElem?_eq_getElem (by omega)]
            rw [List.getElem?_eq_getElem hlt] at this
            exact Option.some.inj this
          ((conv => whnf); repeat' ((first | (with_reducible first | apply a_ | apply b_ | apply c_) | ((with_reducible first | apply d_ | apply e_ | apply f_ | apply g_); focus first | omega | (simp only [q_] <;> omega)) | ((with_reducible first | apply i_ | apply h_); focus first | omega | (simp only [q_] <;> omega)) | ((with_reducible apply h_); focus first | decide | kernel_rfl) | refine BCase.t (by decide) ?_ | refine BCase.f (by decide) ?_ | (refine Idx.mapE (pre.length + (t.flat.length - (r + 1))) (by omega) hlt hget ?_) | with_reducible first | apply l_ | apply m_ | apply n_ | apply o_ | refine p_ (fun _ => ?_) (fun _ => ?_)) <;> (conv => whnf)))
          exact ⟨r + 1, by show r + 1 ≤ _; omega, by omega, [(60, 60)], rfl, rfl, ⟨.inl rfl, ⟨rfl, rfl, rfl, rfl, rfl, rfl⟩, .inl rfl, PLe.int (by omega), PLe.int (by omega), trivial⟩, ⟨rfl, rfl, rfl, rfl⟩, trivial⟩
        · have er : t.flat.length - r = 0 := by omega
          have hb0 : bal (t.flat.take (t.flat.length - r)) = 0 := by rw [er, List.take_zero]; rfl
          have lR : ∀ n, n = ks.length - (k + 1) → (splR ks k)[n]? = some nilR := by
            rintro n rfl; exact splR_row q
          have lS : ∀ n v, n = ks.length - (k + 1) → v = ek t.flat → (splR ks k).set n v = splR ks (k + 1) := by
            rintro n v rfl hv
            exact splR_step q (by rw [hv, ht])
          ((conv => whnf); repeat' ((first | (with_reducible first | apply a_ | apply b_ | apply c_) | ((with_reducible first | apply d_ | apply e_ | apply f_ | apply g_); focus first | omega | (simp only [q_] <;> omega)) | ((with_reducible first | apply i_ | apply h_); focus first | omega | (simp only [q_] <;> omega)) | ((with_reducible apply h_); focus first | decide | kernel_rfl) | refine BCase.t (by decide) ?_ | refine BCase.f (by decide) ?_ | (refine Row.mk nilR (lR _ (by omega)) ?_) | with_reducible first | apply l_ | apply m_ | apply n_ | apply o_ | refine p_ (fun _ => ?_) (fun _ => ?_)) <;> (conv => whnf)))
          refine ⟨k + 1, by show k + 1 ≤ _; omega, by omega, [(60, 60)], rfl, rfl, ⟨.inl ?_, ⟨rfl, rfl, rfl, rfl, rfl, rfl⟩, PLe.int (by omega), trivial⟩, ⟨rfl, rfl, rfl, ?_⟩, trivial⟩
          · have e1 : (((Ex.flats (ks.take (ks.length - k))).map NodeD.c).drop 0).take ((pre.length + (t.flat.length - r) : Nat) : Int).toNat = pre.map NodeD.c := by
              rw [List.drop_zero, er, hs, List.map_append, show ((pre.length + 0 : Nat) : Int).toNat = pre.length by omega, List.take_left' (by rw [List.length_map])]
            exact congrArg (C.sl 6) (e1.trans (by rw [hpre]))
          · apply lS
            · omega
            · have e2 : (((Ex.flats (ks.take (ks.length - k))).map NodeD.c).drop ((pre.length + (t.flat.length - r) : Nat) : Int).toNat).take ((((Ex.flats (ks.take (ks.length - k))).map NodeD.c).length : Int).toNat - ((pre.length + (t.flat.length - r) : Nat) : Int).toNat) = t.flat.map NodeD.c := by
                rw [er, hs, List.map_append, show ((pre.length + 0 : Nat) : Int).toNat = pre.length by omega, List.drop_left' (by rw [List.length_map])]
                exact List.take_of_length_le (by rw [List.length_append, List.length_map, List.length_map]; omega)
              exact congrArg (fun x => [C.sl 6 x]) e2
    · ((conv => whnf); repeat' ((first | (with_reducible first | apply a_ | apply b_ | apply c_) | ((with_reducible first | apply d_ | apply e_ | apply f_ | apply g_); focus first | omega | (simp only [q_] <;> omega)) | ((with_reducible first | apply i_ | apply h_); focus first | omega | (simp only [q_] <;> omega)) | ((with_reducible apply h_); focus first | decide | kernel_rfl) | refine BCase.t (by decide) ?_ | refine BCase.f (by decide) ?_ | with_reducible first | apply l_ | apply m_ | apply n_ | apply o_ | refine p_ (fun _ => ?_) (fun _ => ?_)) <;> (conv => whnf)))
      refine Need.mk (by rw [splR_len _ _ hk2]; omega) ?_
      ((conv => whnf); repeat' ((first | (with_reducible first | apply a_ | apply b_ | apply c_) | ((with_reducible first | apply d_ | apply e_ | apply f_ | apply g_); focus first | omega | (simp only [q_] <;> omega)) | ((with_reducible first | apply i_ | apply h_); focus first | omega | (simp only [q_] <;> omega)) | ((with_reducible apply h_); focus first | decide | kernel_rfl) | refine BCase.t (by decide) ?_ | refine BCase.f (by decide) ?_ | with_reducible first | apply l_ | apply m_ | apply n_ | apply o_ | refine p_ (fun _ => ?_) (fun _ => ?_)) <;> (conv => whnf)))
      refine Ret.eq ?_
      have e1 : ((splR ks k).drop 0).take ks.length = ks.map fun k => ek k.flat := by
        rw [List.drop_zero, List.take_of_length_le (by rw [splR_len _ _ hk2]; omega)]
        unfold splR
        rw [show ks.length - k = 0 by omega]; rfl
      exact congrArg (fun x => PV.d (D.c (C.sl 1 x))) e1
end Go.Proofs.YtggdfnjomonbkaaGreatDoor.Pm
end
section
namespace Go.Proofs.YtggdfnjomonbkaaGreatDoor.Pm
open Go.RowKit
set_option linter.unusedVariables false
set_option linter.unusedSimpArgs false
abbrev nilSl : D := .c (.v (.slice none 0 0))
theorem hpL_one {K : Nat} {b : HB} {j : Nat} {x : HB} (h : hpL [(K, b)] j = some x) : j = K ∧ x = b := by
  unfold hpL at h
  cases hq : Nat.beq j K with
  | true => rw [hq, cond_true] at h; cases h; exact ⟨Nat.eq_of_beq_eq_true hq, rfl⟩
  | false => rw [hq, cond_false] at h; cases h
theorem hpL_two {K K' : Nat} {b b' : HB} {j : Nat} {x : HB} (h : hpL [(K, b), (K', b')] j = some x) : (j = K ∧ x = b) ∨ (j = K' ∧ x = b') := by
  unfold hpL at h
  cases hq : Nat.beq j K with
  | true => rw [hq, cond_true] at h; cases h; exact .inl ⟨Nat.eq_of_beq_eq_true hq, rfl⟩
  | false => rw [hq, cond_false] at h; exact .inr (hpL_one h)
theorem CallS.nil_arr {P : Program} {f : FuncId} {args : List PV} {K K' T e sz : Nat} {l : List D} {out : Rf} {res : PV} (hz : 0 < sz) (hne : K ≠ K')
    (h1 : CallS P f args [] [(K, .box T (.arr K' e sz 0 0 :: l)), (K', .arr e sz [])] res out) :
    CallS P f args [] [(K, .box T (nilSl :: l))] res out := by
  refine ⟨h1.1, fun c vs hc hdf hf hs ha => ?_⟩
  simp only [List.nil_append] at hs ha hf
  have hn : c.σ0 K' = none := hf K' (by simp only [List.map_cons, List.map_nil, List.mem_singleton]; exact fun x => hne x.symm)
  have hK : hpL [(K, HB.box T (nilSl :: l))] K = some (.box T (nilSl :: l)) := by unfold hpL; simp
  obtain ⟨g, n, cs, e1, e2, e3, e4⟩ := hs.hp K _ hK
  obtain ⟨σ', hσ'⟩ : ∃ σ', σ' = upd c.σ0 K' (some ((none : Option Nat), 0)) := ⟨_, rfl⟩
  have hsg : ∀ k x, c.σ0 k = some x → σ' k = some x := by
    intro k x hx
    rw [hσ', upd_ne]
    · exact hx
    · rintro rfl; rw [hn] at hx; cases hx
  have hsK : σ' K = c.σ0 K := by rw [hσ', upd_ne _ _ hne]
  have hsK' : σ' K' = some (none, 0) := by rw [hσ', upd_same]
  let c' : Ctx := { c with σ0 := σ' }
  have hc' : c'.Ok := ⟨hc.fz, hc.gl, hc.gb⟩
  obtain ⟨H, hH⟩ : ∃ H, H = hpL [(K, HB.box T (.arr K' e sz 0 0 :: l)), (K', HB.arr e sz [])] := ⟨_, rfl⟩
  have hHK : H K = some (.box T (.arr K' e sz 0 0 :: l)) := by rw [hH]; unfold hpL; simp
  have hHK' : H K' = some (.arr e sz []) := by
    rw [hH]
    have : Nat.beq K' K = false := by rw [Bool.eq_false_iff]; intro x; exact hne (Nat.eq_of_beq_eq_true x).symm
    unfold hpL
    rw [this, cond_false]
    unfold hpL; simp
  have hfz : ∀ S b o, Fz c c.σ0 (hpL [(K, HB.box T (nilSl :: l))]) S b o ↔ Fz c' σ' H S b o := by
    intro S b o
    constructor
    · rintro (q | ⟨q1, q2, q3⟩)
      · exact .inl q
      · refine .inr ⟨q1, q2, fun k m hb hk hσ => ?_⟩
        rw [hH] at hk
        rcases hpL_two hk with ⟨rfl, rfl⟩ | ⟨rfl, rfl⟩
        · exact (q3 k m _ hK (by rw [← hsK]; exact hσ)).elim
        · rw [hsK'] at hσ; cases hσ
    · rintro (q | ⟨q1, q2, q3⟩)
      · exact .inl q
      · refine .inr ⟨q1, q2, fun k m hb hk hσ => ?_⟩
        obtain ⟨rfl, rfl⟩ := hpL_one hk
        exact (q3 k m _ hHK (by rw [hsK]; exact hσ)).elim
  have hke : Keeps (fz c c.σ0 (hpL [(K, HB.box T (nilSl :: l))]) c.w0) (fz c' σ' H c.w0) c.w0 c.w0 := ⟨fun b o q => (hfz _ b o).1 q, fun _ _ _ => rfl⟩
  have hev : Evo c.σ0 σ' (fz c c.σ0 (hpL [(K, HB.box T (nilSl :: l))]) c.w0) (fz c' σ' H c.w0) c.w0 c.w0 := ⟨hsg, hke, Shape.refl _⟩
  have hbox : HbOk σ' (fz c' σ' H c.w0) c.w0 c'.own K (.box T (.arr K' e sz 0 0 :: l)) := by
    refine ⟨g, n, cs, by rw [hsK]; exact e1, e2, e3, ?_⟩
    cases hcs : cs.toList with
    | nil => rw [hcs] at e4; unfold DsRep at e4; exact e4.elim
    | cons u us =>
      rw [hcs] at e4
      unfold DsRep at e4 ⊢
      obtain ⟨e4, e5⟩ := e4
      refine ⟨?_, DsRep.evo hev l us e5⟩
      unfold DRep CRep at e4
      unfold DRep
      exact ⟨hz, .inl ⟨0, hsK', rfl, none, e4.1⟩⟩
  have hsw : SW c' c'.σ0 H c'.w0 := by
    refine ⟨hs.os, hs.tape, hs.output, hs.size, hs.block, fun k hb hk => ?_, fun k k' g n n' q1 q2 q3 q4 => ?_, ⟨fun b o q => (hfz _ b o).1 (hs.kept.le b o q), hs.kept.cell⟩, hs.shape, fun k x q => q⟩
    · rw [hH] at hk
      rcases hpL_two hk with ⟨rfl, rfl⟩ | ⟨rfl, rfl⟩
      · exact hbox
      · refine ⟨hz, (fun r hr => absurd hr (List.not_mem_nil)), none, 0, hsK', rfl⟩
    · have one : ∀ k g n, H k ≠ none → σ' k = some (some g, n) → k = K := by
        intro k g n q r
        cases hx : H k with
        | none => exact absurd hx q
        | some x =>
          rw [hH] at hx
          rcases hpL_two hx with ⟨rfl, _⟩ | ⟨rfl, _⟩
          · rfl
          · rw [hsK'] at r; cases r
      rw [one k g n q1 q3, one k' g n' q2 q4]
  have hk' : ∀ k, k ∉ (([] : Rf) ++ [(K, HB.box T (.arr K' e sz 0 0 :: l)), (K', HB.arr e sz [])]).map Prod.fst → c'.σ0 k = none := by
    intro k hk
    simp only [List.nil_append, List.map_cons, List.map_nil, List.mem_cons, List.not_mem_nil, or_false, not_or] at hk
    show σ' k = none
    rw [hσ', upd_ne _ _ hk.2]
    exact hf k (by simp only [List.map_cons, List.map_nil, List.mem_singleton]; exact hk.1)
  have := h1.2 c' vs hc' hdf hk' (by rw [List.nil_append, ← hH]; exact hsw) (by rw [List.nil_append, ← hH]; exact PsRep.evo hev _ _ ha)
  refine this.mono ?_
  rintro en w' ⟨v, τ, rfl, q1, q2⟩
  exact ⟨v, τ, rfl, ⟨q1.os, q1.tape, q1.output, q1.size, q1.block, q1.hp, q1.inj, q1.kept, q1.shape, fun k x q => q1.sg0 k x (hsg k x q)⟩, q2⟩
end Go.Proofs.YtggdfnjomonbkaaGreatDoor.Pm
end
section
namespace Go.Proofs.YtggdfnjomonbkaaGreatDoor.Pm
open Go.RowKit K
set_option linter.unusedVariables false
set_option linter.unusedSimpArgs false
set_option maxRecDepth 100000
def notN : NodeD := ⟨4, 1, noV, []⟩
def opN (n : NodeD) (op : Int) : NodeD := ⟨op, n.Kids, n.V, n.Name⟩
mutual
def pushE (neg : Bool) : Ex → Ex
  | .mk n ks =>
    if n.Op = 4 then (match pushEs (!neg) ks with
      | [k] => k
      | _ => .mk n ks)
    else if n.Op = 16 ∨ n.Op = 17 then .mk (opN n (if neg then 33 - n.Op else n.Op)) (pushEs neg ks)
    else if neg then (if couF n.Op ≠ 0 then .mk (opN n (couF n.Op)) ks else .mk notN [.mk n ks])
    else .mk n ks
def pushEs (neg : Bool) : List Ex → List Ex
  | [] => []
  | t :: ts => pushE neg t :: pushEs neg ts
end
theorem pushE_eq (neg : Bool) (n : NodeD) (ks : List Ex) : pushE neg (.mk n ks) = if n.Op = 4 then (match pushEs (!neg) ks with
      | [k] => k
      | _ => .mk n ks)
    else if n.Op = 16 ∨ n.Op = 17 then .mk (opN n (if neg then 33 - n.Op else n.Op)) (pushEs neg ks)
    else if neg then (if couF n.Op ≠ 0 then .mk (opN n (couF n.Op)) ks else .mk notN [.mk n ks])
    else .mk n ks := by rw [pushE]
theorem pushEs_map (neg : Bool) : ∀ l : List Ex, pushEs neg l = l.map (pushE neg)
  | [] => by rw [pushEs, List.map_nil]
  | t :: l => by rw [pushEs, List.map_cons, pushEs_map neg l]
theorem pushE_not (neg : Bool) {n : NodeD} {k : Ex} (h : n.Op = 4) : pushE neg (.mk n [k]) = pushE (!neg) k := by
  rw [pushE_eq, if_pos h, pushEs, pushEs]
theorem pushE_and (neg : Bool) {n : NodeD} {ks : List Ex} (h : n.Op = 16 ∨ n.Op = 17) : pushE neg (.mk n ks) = .mk (opN n (if neg then 33 - n.Op else n.Op)) (pushEs neg ks) := by
  rw [pushE_eq, if_neg (by omega), if_pos h]
theorem pushE_else (neg : Bool) {n : NodeD} {ks : List Ex} (h4 : n.Op ≠ 4) (h : ¬ (n.Op = 16 ∨ n.Op = 17)) : pushE neg (.mk n ks) = if neg then (if couF n.Op ≠ 0 then .mk (opN n (couF n.Op)) ks else .mk notN [.mk n ks]) else .mk n ks := by
  rw [pushE_eq, if_neg h4, if_neg h]
abbrev pu (K A : Nat) (out : List NodeD) : Rf := [(K, .box 64 [.arr A 37 6 0 out.length]), (A, .arr 37 6 (out.map NodeD.c))]
theorem pushEs_snoc (neg : Bool) {ks : List Ex} {j : Nat} (q : j < ks.length) : Ex.flats (pushEs neg (ks.take (j + 1))) = Ex.flats (pushEs neg (ks.take j)) ++ (pushE neg ks[j]).flat := by
  rw [take_snoc q, pushEs_map, pushEs_map, List.map_append, Ex.flats_append]
  show _ ++ Ex.flats [pushE neg ks[j]] = _
  rw [Ex.flats_one]
theorem pushEs_le (neg : Bool) {ks : List Ex} {j : Nat} : (Ex.flats (pushEs neg (ks.take j))).length ≤ (Ex.flats (pushEs neg ks)).length := by
  conv => rhs; rw [← List.take_append_drop j ks]
  rw [pushEs_map, pushEs_map, List.map_append, Ex.flats_append, List.length_append]
  omega
theorem s_push : ∀ (N : Nat) (t : Ex), t.flat.length ≤ N → t.good → (∀ n ∈ t.flat, alF n = 0) → ∀ (neg : Bool) (out : List NodeD), out.length + (pushE neg t).flat.length ≤ 1000000 → t.flat.length ≤ 1000 →
    CallS Tryz.prog 41 [.d (.ptr FK 0), slV 6 NodeD.c t.flat, pBool neg] [] (pu FK FK1 out) (.tup []) (pu FK NK (out ++ (pushE neg t).flat))
  | 0, t, hN, hg, ha, neg, out, hb, hl => by have := t.flat_pos; omega
  | N + 1, .mk n ks, hN, hg, ha, neg, out, hb, hl => by
    have hg0 := hg
    rw [Ex.good] at hg
    obtain ⟨hk, hgs⟩ := hg
    have hlen : (Ex.mk n ks).flat.length = (Ex.flats ks).length + 1 := by rw [Ex.flat, List.length_append, List.length_singleton]
    have hkb := len_le_flats ks
    have han : alF n = 0 := ha n (by rw [Ex.flat]; simp)
    have hak : ∀ k ∈ ks, ∀ m ∈ k.flat, alF m = 0 := fun k hk m hm => ha m (by rw [Ex.flat]; exact List.mem_append_left _ (flats_mem hk hm))
    obtain ⟨h1, h2, h3, h4, h5, h6⟩ := alF_kids han
    obtain ⟨e, he⟩ : ∃ e, e = (Ex.mk n ks).flat := ⟨_, rfl⟩
    have pk := p_split n ks hg0 e he.symm (by rw [he]; exact hl)
    have he2 := root_at (n := n) (ks := ks) (e := e) (pre := []) (post := []) (by rw [he]; simp)
    obtain ⟨hr1, hr2⟩ := root_get he2
    have hel : e.length = (Ex.flats ks).length + 1 := by rw [he, hlen]
    have hml : (e.map NodeD.c).length = (Ex.flats ks).length + 1 := by rw [List.length_map, hel]
    have hpl : ([] ++ Ex.flats ks).length = (Ex.flats ks).length := rfl
    rw [← he] at hl hN ⊢
    refine callS_of Tryz.func41 (by rfl) rfl (by kernel_rfl) (by rfl) [FK, FK1] rfl ?_
    have hfe : (Ex.mk n ks).flat = Ex.flats ks ++ [n] := by rw [Ex.flat]
    have hem : e.map NodeD.c = (Ex.flats ks).map NodeD.c ++ [n.c] := by rw [he, hfe, List.map_append]; rfl
    by_cases g4 : n.Op = 4
    · have hk1 : ks.length = 1 := by
        rw [g4] at h3 h4
        have : leastK 4 = 1 := rfl
        have : mostK 4 = 1 := rfl
        omega
      obtain ⟨k, rfl⟩ : ∃ k, ks = [k] := List.length_eq_one_iff.1 hk1
      rw [pushE_not neg g4] at hb ⊢
      have hf1 : Ex.flats [k] = k.flat := Ex.flats_one k
      rw [hf1] at hel hlen
      have pp := s_push N k (by omega) (Ex.goods_mem hgs k (List.mem_singleton.2 rfl)) (hak k (List.mem_singleton.2 rfl)) (!neg) out hb (by omega)
      have eS : ∀ m, m = (((e.map NodeD.c).length : Int) - 1).toNat - 0 → slV 6 NodeD.c k.flat = .d (.c (.sl 6 (((e.map NodeD.c).drop 0).take m))) := by
        rintro m rfl
        rw [List.drop_zero, List.length_map, hel, show ((((k.flat.length + 1 : Nat) : Int) - 1).toNat - 0) = (k.flat.map NodeD.c).length by rw [List.length_map]; omega, hem, hf1, List.take_left' rfl]
      rw [eS _ rfl] at pp
      ((conv => whnf); repeat' ((first | (with_reducible first | apply a_ | apply b_ | apply c_) | ((with_reducible first | apply d_ | apply e_ | apply f_ | apply g_); focus first | omega | (simp only [q_] <;> omega)) | ((with_reducible first | apply i_ | apply h_); focus first | omega | (simp only [q_] <;> omega)) | ((with_reducible apply h_); focus first | decide | kernel_rfl) | refine BCase.t (by decide) ?_ | refine BCase.f (by decide) ?_ | (refine Idx.mapE ([] ++ Ex.flats [k]).length (by omega) hr1 hr2 ?_) | (refine CallP.ret [(FK, FK), (FK1, FK1), (NK, 30)] _ _ _ _ _ _ _ pp rfl rfl rfl rfl ⟨rfl, rfl, trivial⟩ ?_) | with_reducible first | apply l_ | apply m_ | apply n_ | apply o_ | refine p_ (fun _ => ?_) (fun _ => ?_)) <;> (conv => whnf)))
      exact RetS.mk [(FK, FK), (FK1, FK1), (NK, 30)] [FK, FK1, NK] rfl rfl rfl ⟨⟨rfl, rfl, ⟨rfl, rfl, rfl, rfl, rfl, rfl⟩, rfl⟩, ⟨rfl, rfl, rfl, rfl⟩, trivial⟩
    by_cases g16 : n.Op = 16 ∨ n.Op = 17
    · rw [pushE_and neg g16] at hb ⊢
      have hfp : (Ex.mk (opN n (if neg then 33 - n.Op else n.Op)) (pushEs neg ks)).flat = Ex.flats (pushEs neg ks) ++ [opN n (if neg then 33 - n.Op else n.Op)] := by rw [Ex.flat]
      rw [hfp] at hb ⊢
      rw [List.length_append, List.length_singleton] at hb
      rcases g16 with g | g
      all_goals
        ((conv => whnf); repeat' ((first | (with_reducible first | apply a_ | apply b_ | apply c_) | ((with_reducible first | apply d_ | apply e_ | apply f_ | apply g_); focus first | omega | (simp only [q_] <;> omega)) | ((with_reducible first | apply i_ | apply h_); focus first | omega | (simp only [q_] <;> omega)) | ((with_reducible apply h_); focus first | decide | kernel_rfl) | refine BCase.t (by decide) ?_ | refine BCase.f (by decide) ?_ | (refine Idx.mapE ([] ++ Ex.flats ks).length (by omega) hr1 hr2 ?_) | refine CallP.pure _ rfl _ (pk) ?_ | with_reducible first | apply l_ | apply m_ | apply n_ | apply o_ | refine p_ (fun _ => ?_) (fun _ => ?_)) <;> (conv => whnf)))
        refine LoopC.mk Nat (fun j => [(0, .d (.ptr FK 0)), (2, pBool neg), (6, .d (.ptr 6 0)), (7, pInt .i64 n.Op), (35, .d (.c (.sl 1 (ks.map fun k => ek k.flat)))), (36, pInt .i64 ks.length), (37, pInt .i64 j)]) (fun j => pu FK 60 (out ++ Ex.flats (pushEs neg (ks.take j))) ++ [(6, .box 37 (n.c.map D.c))]) [FK, FK1, 60, 6] (fun j => j ≤ ks.length) (fun j => ks.length - j) 0 (Nat.zero_le _) ?start ?round
        case start =>
          refine ⟨[(FK, FK), (FK1, FK1), (60, FK1), (6, 6)], rfl, rfl, ⟨⟨rfl, rfl, rfl⟩, .inl rfl, ⟨rfl, rfl, rfl⟩, .inl rfl, .inl rfl, PLe.int (by simp), .inl rfl, trivial⟩, ⟨rfl, rfl, ⟨rfl, rfl, rfl, rfl, rfl, ?_⟩, rfl⟩, ⟨rfl, rfl, rfl, ?_⟩, ⟨rfl, rfl, ⟨.inl rfl, .inl rfl, .inl rfl, .inl rfl, .inl rfl, .inl rfl, rfl⟩⟩, trivial⟩
          · show out.length = (out ++ Ex.flats (pushEs neg (ks.take 0))).length
            rw [List.take_zero, pushEs, Ex.flats, List.append_nil]
          · show out.map NodeD.c = (out ++ Ex.flats (pushEs neg (ks.take 0))).map NodeD.c
            rw [List.take_zero, pushEs, Ex.flats, List.append_nil]
        case round =>
          intro j hj
          have hj : j ≤ ks.length := hj
          by_cases q : j < ks.length
          · have hm := List.getElem_mem q
            have hfl := flat_le_flats hm
            have e1 := pushEs_snoc neg q
            have e2 := pushEs_le neg (ks := ks) (j := j + 1)
            have e3 : out ++ Ex.flats (pushEs neg (ks.take (j + 1))) = out ++ Ex.flats (pushEs neg (ks.take j)) ++ (pushE neg ks[j]).flat := by rw [e1, List.append_assoc]
            have e4 := congrArg List.length e3
            rw [List.length_append] at e4
            have pp := s_push N ks[j] (by omega) (Ex.goods_mem hgs _ hm) (hak _ hm) neg (out ++ Ex.flats (pushEs neg (ks.take j))) (by rw [List.length_append] at e4; omega) (by omega)
            rw [← e3] at pp
            ((conv => whnf); repeat' ((first | (with_reducible first | apply a_ | apply b_ | apply c_) | ((with_reducible first | apply d_ | apply e_ | apply f_ | apply g_); focus first | omega | (simp only [q_] <;> omega)) | ((with_reducible first | apply i_ | apply h_); focus first | omega | (simp only [q_] <;> omega)) | ((with_reducible apply h_); focus first | decide | kernel_rfl) | refine BCase.t (by decide) ?_ | refine BCase.f (by decide) ?_ | (refine Idx.mapI (f := fun k => ek k.flat) j rfl q ?_) | (refine CallP.ret [(FK, FK), (FK1, 60), (NK, 44)] _ _ _ _ _ _ _ pp rfl rfl rfl rfl ⟨rfl, rfl, trivial⟩ ?_) | with_reducible first | apply l_ | apply m_ | apply n_ | apply o_ | refine p_ (fun _ => ?_) (fun _ => ?_)) <;> (conv => whnf)))
            exact ⟨j + 1, by show j + 1 ≤ _; omega, by omega, [(FK, FK), (FK1, FK1), (60, 44), (6, 6)], rfl, rfl, ⟨⟨rfl, rfl, rfl⟩, .inl rfl, ⟨rfl, rfl, rfl⟩, .inl rfl, .inl rfl, .inl rfl, PLe.int rfl, trivial⟩, ⟨rfl, rfl, ⟨rfl, rfl, rfl, rfl, rfl, rfl⟩, rfl⟩, ⟨rfl, rfl, rfl, rfl⟩, ⟨rfl, rfl, ⟨.inl rfl, .inl rfl, .inl rfl, .inl rfl, .inl rfl, .inl rfl, rfl⟩⟩, trivial⟩
          · rw [List.take_of_length_le (by omega)]
            cases neg
            all_goals
              ((conv => whnf); repeat' ((first | (with_reducible first | apply a_ | apply b_ | apply c_) | ((with_reducible first | apply d_ | apply e_ | apply f_ | apply g_); focus first | omega | (simp only [q_] <;> omega)) | ((with_reducible first | apply i_ | apply h_); focus first | omega | (simp only [q_] <;> omega)) | ((with_reducible apply h_); focus first | decide | kernel_rfl) | refine BCase.t (by decide) ?_ | refine BCase.f (by decide) ?_ | (refine Need.by 64 rfl (by simp only [List.length_map, List.length_append, List.length_singleton]; omega) ?_) | with_reducible first | apply l_ | apply m_ | apply n_ | apply o_ | refine p_ (fun _ => ?_) (fun _ => ?_)) <;> (conv => whnf)))
              refine RetS.mk [(FK, FK), (FK1, FK1), (NK, 57)] [FK, FK1, NK] rfl rfl rfl ⟨⟨rfl, rfl, ⟨rfl, rfl, rfl, rfl, rfl, ?_⟩, rfl⟩, ⟨rfl, rfl, rfl, ?_⟩, trivial⟩
              · simp only [List.length_append, List.length_singleton]; omega
              · rw [List.take_of_length_le (by simp only [List.length_map, List.length_append, List.length_take]; omega)]; simp only [List.map_append, List.append_assoc]; rfl
    rw [pushE_else neg g4 g16] at hb ⊢
    cases neg with
    | false =>
      rw [if_neg (by simp)] at hb ⊢
      rw [hlen] at hb
      ((conv => whnf); repeat' ((first | (with_reducible first | apply a_ | apply b_ | apply c_) | ((with_reducible first | apply d_ | apply e_ | apply f_ | apply g_); focus first | omega | (simp only [q_] <;> omega)) | ((with_reducible first | apply i_ | apply h_); focus first | omega | (simp only [q_] <;> omega)) | ((with_reducible apply h_); focus first | decide | kernel_rfl) | refine BCase.t (by decide) ?_ | refine BCase.f (by decide) ?_ | (refine Idx.mapE ([] ++ Ex.flats ks).length (by omega) hr1 hr2 ?_) | (refine Need.by 64 rfl (by simp only [List.length_map]; omega) ?_) | with_reducible first | apply l_ | apply m_ | apply n_ | apply o_ | refine p_ (fun _ => ?_) (fun _ => ?_)) <;> (conv => whnf)))
      refine RetS.mk [(FK, FK), (FK1, FK1), (NK, 66)] [FK, FK1, NK] rfl rfl rfl ⟨⟨rfl, rfl, ⟨rfl, rfl, rfl, rfl, rfl, ?_⟩, rfl⟩, ⟨rfl, rfl, rfl, ?_⟩, trivial⟩
      · rw [← he, List.length_append, List.length_map]
      · rw [List.take_of_length_le (by simp only [List.length_map, List.length_append, List.length_take]; omega)]; rw [← he, List.map_append]
    | true =>
      rw [if_pos rfl] at hb ⊢
      have pc := p_counter n.Op
      by_cases gc : couF n.Op = 0
      · rw [if_neg (by rw [gc]; decide)] at hb ⊢
        rw [gc] at pc
        have hfn : (Ex.mk notN [Ex.mk n ks]).flat = e ++ [notN] := by rw [Ex.flat, Ex.flats_one, he]
        rw [hfn] at hb ⊢
        rw [List.length_append, List.length_singleton] at hb
        ((conv => whnf); repeat' ((first | (with_reducible first | apply a_ | apply b_ | apply c_) | ((with_reducible first | apply d_ | apply e_ | apply f_ | apply g_); focus first | omega | (simp only [q_] <;> omega)) | ((with_reducible first | apply i_ | apply h_); focus first | omega | (simp only [q_] <;> omega)) | ((with_reducible apply h_); focus first | decide | kernel_rfl) | refine BCase.t (by decide) ?_ | refine BCase.f (by decide) ?_ | (refine Idx.mapE ([] ++ Ex.flats ks).length (by omega) hr1 hr2 ?_) | refine CallP.pure _ rfl _ (pc) ?_ | (refine Need.by 64 rfl (by simp only [List.length_map, List.length_append, List.length_singleton]; omega) ?_) | with_reducible first | apply l_ | apply m_ | apply n_ | apply o_ | refine p_ (fun _ => ?_) (fun _ => ?_)) <;> (conv => whnf)))
        refine RetS.mk [(FK, FK), (FK1, FK1), (NK, 96)] [FK, FK1, NK] rfl rfl rfl ⟨⟨rfl, rfl, ⟨rfl, rfl, rfl, rfl, rfl, ?_⟩, rfl⟩, ⟨rfl, rfl, rfl, ?_⟩, trivial⟩
        · simp only [List.length_append, List.length_singleton, List.length_map]; omega
        · rw [List.take_of_length_le (by simp only [List.length_map, List.length_append, List.length_take]; omega)]; rw [List.take_of_length_le (by simp only [List.length_map, List.length_append, List.length_take]; omega)]; simp only [List.map_append, List.append_assoc]; rfl
      · rw [if_pos gc] at hb ⊢
        have hfn : (Ex.mk (opN n (couF n.Op)) ks).flat = Ex.flats ks ++ [opN n (couF n.Op)] := by rw [Ex.flat]
        rw [hfn] at hb ⊢
        rw [List.length_append, List.length_singleton] at hb
        have lS : ∀ m r, m = out.length + (Ex.flats ks).length → r = (opN n (couF n.Op)).c → ((out.map NodeD.c).take out.length ++ e.map NodeD.c).set m r = (out ++ (Ex.flats ks ++ [opN n (couF n.Op)])).map NodeD.c := by
          rintro m r rfl rfl
          rw [List.take_of_length_le (by simp), hem, ← List.append_assoc, ← List.map_append, List.set_append_right _ _ (by simp), List.length_map, List.length_append, Nat.sub_self, ← List.append_assoc, List.map_append, List.map_append, List.map_append]
          rfl
        have lR : ∀ m, m = out.length + (Ex.flats ks).length → ((out.map NodeD.c).take out.length ++ e.map NodeD.c)[m]? = some n.c := by
          rintro m rfl
          rw [List.take_of_length_le (by simp), hem, ← List.append_assoc, List.getElem?_append_right (by simp), List.length_append, List.length_map, List.length_map, Nat.sub_self]; rfl
        ((conv => whnf); repeat' ((first | (with_reducible first | apply a_ | apply b_ | apply c_) | ((with_reducible first | apply d_ | apply e_ | apply f_ | apply g_); focus first | omega | (simp only [q_] <;> omega)) | ((with_reducible first | apply i_ | apply h_); focus first | omega | (simp only [q_] <;> omega)) | ((with_reducible apply h_); focus first | decide | kernel_rfl) | refine BCase.t (by decide) ?_ | refine BCase.f (by decide) ?_ | (refine Idx.mapE ([] ++ Ex.flats ks).length (by omega) hr1 hr2 ?_) | refine CallP.pure _ rfl _ (pc) ?_ | (refine Need.by 64 rfl (by simp only [List.length_map, List.length_append, List.length_singleton]; omega) ?_) | (refine Row.mk n.c (lR _ (by omega)) ?_) | with_reducible first | apply l_ | apply m_ | apply n_ | apply o_ | refine p_ (fun _ => ?_) (fun _ => ?_)) <;> (conv => whnf)))
        refine RetS.mk [(FK, FK), (FK1, FK1), (NK, 66)] [FK, FK1, NK] rfl rfl rfl ⟨⟨rfl, rfl, ⟨rfl, rfl, rfl, rfl, rfl, ?_⟩, rfl⟩, ⟨rfl, rfl, rfl, ?_⟩, trivial⟩
        · simp only [List.length_append, List.length_singleton, List.length_map]; omega
        · exact lS _ _ (by simp only [List.length_map]; omega) rfl
end Go.Proofs.YtggdfnjomonbkaaGreatDoor.Pm
end
