/- Parts of the proof, one behind the other: PkLex PkNext PkNext2 PdSet PdCat PdSch PdEntry PdRows PdOf PdRef PvRef PvRef2 PvRef3 PkRef PkRef2 PkTok PvFmt PvRef4 PmBuild PlBLen PkPrint PxData PxTree PxKids PxCheck PnPlain PnJoin PmNil PnWalk PnPrint PxAlone PnAsked PnNode PmClone. Conditions: none beyond what each theorem says. -/
import Derived.Test.YtmcmagfondjopaaDoorYShelf
import Derived.Lib.Hide
import Derived.Test.YtmcmagfondjopaaDoorZ4
section
namespace Go.Proofs.YtmcmagfondjopaaDoor.Pm
open Go.RowKit K
set_option linter.unusedVariables false
set_option linter.unusedSimpArgs false
set_option maxRecDepth 100000
theorem drop_cons {l : List UInt8} {k : Nat} (h : k < l.length) : l.drop k = l.getD k 0 :: l.drop (k + 1) := by
 rw [List.drop_eq_getElem_cons h, List.getD_eq_getElem?_getD, List.getElem?_eq_getElem h]; rfl
theorem head_drop (l : List UInt8) (k : Nat) : (l.drop k).headD 0 = l.getD k 0 := by
 rw [headD_get, List.getD_eq_getElem?_getD, List.getD_eq_getElem?_getD, List.getElem?_drop]; rfl
theorem drop_runTo {p : UInt8 → Bool} {l : List UInt8} {k : Nat} : l.drop (runTo p l k) = (l.drop k).dropWhile p := by
 unfold runTo
 rw [← List.drop_drop]
 conv => lhs; arg 2; rw [← List.takeWhile_append_dropWhile (p := p) (l := l.drop k)]
 rw [List.drop_left]
theorem d39 (c : UInt8) : c = 39 ↔ ((c.toNat : Nat) : Int) = 39 := ⟨fun e => by rw [e]; rfl, fun e => by rw [← u8_back c, show c.toNat = 39 by omega]; rfl⟩
def qEnd (l : List UInt8) (k : Nat) : PV := match qLen (l.drop (k + 1)) with
 | none => .tup [pInt .i64 0, pBool false]
 | some n => .tup [pInt .i64 ((k + 1 + n : Nat) : Int), pBool true]
def pairL (m : Nat) : List UInt8 := if m = 0 then [60, 62] else if m = 1 then [60, 61] else [62, 61]
theorem pairB_iff (a b : UInt8) : pairB a b = true ↔ ∃ m, m < 3 ∧ [a, b] = pairL m := by
 have e : ∀ (c : UInt8) (n : Nat) (hn : n < 256), c.toNat = n ↔ c = UInt8.ofNat n := fun c n hn => ⟨fun h => by rw [← h, u8_back], fun h => by rw [h, u8_small hn]⟩
 unfold pairB
 rw [Bool.or_eq_true, Bool.or_eq_true, decide_eq_true_eq, decide_eq_true_eq, decide_eq_true_eq, e a 60 (by decide), e b 62 (by decide), e b 61 (by decide), e a 62 (by decide)]
 constructor
 ·rintro (⟨rfl, rfl⟩ | ⟨rfl, rfl⟩ | ⟨rfl, rfl⟩)
  ·exact ⟨0, by decide, rfl⟩
  ·exact ⟨1, by decide, rfl⟩
  ·exact ⟨2, by decide, rfl⟩
 ·rintro ⟨m, hm, h⟩
  have : m = 0 ∨ m = 1 ∨ m = 2 := by omega
  rcases this with rfl | rfl | rfl
  ·cases h; exact .inl ⟨rfl, rfl⟩
  ·cases h; exact .inr (.inl ⟨rfl, rfl⟩)
  ·cases h; exact .inr (.inr ⟨rfl, rfl⟩)
theorem sing_ix (c : UInt8) : 0 ≤ Lib.indexByte singL c ↔ singB c = true := by
 have h : ∀ n : Nat, n < 256 → (0 ≤ Lib.indexByte singL (UInt8.ofNat n) ↔ singB (UInt8.ofNat n) = true) := by decide +kernel
 have := h c.toNat c.toNat_lt
 rwa [u8_back] at this
theorem p_indexsing (c : UInt8) : Pure Tryd.prog 77 [.d (.c (.v (.string ⟨#[40, 41, 44, 59, 42, 43, 45, 47, 37, 61, 60, 62]⟩))), pInt .u8 (c.toNat : Int)] (pInt .i64 (Lib.indexByte singL c)) := by
 refine pure_hand (vs := [.string ⟨#[40, 41, 44, 59, 42, 43, 45, 47, 37, 61, 60, 62]⟩, .int .u8 (c.toNat : Int)]) ⟨_, Tryd.func77, by rfl, by rfl⟩ fun w hG => ?_
 refine (Tryd.strings_IndexByte ⟨#[40, 41, 44, 59, 42, 43, 45, 47, 37, 61, 60, 62]⟩ (c.toNat : Int) w).mono ?_
 rintro e w' ⟨rfl, rfl⟩
 refine ⟨_, rfl, Below.refl _ _, fun F _ => ?_⟩
 rw [show ((c.toNat : Int).toNat.toUInt8) = c from u8_back c]
 exact rep_int _ _
theorem two_tx {l : List UInt8} {k : Nat} (h : k + 1 < l.length) : (tx l).extract ((k : Nat) : Int).toNat (((k : Nat) : Int) + 2).toNat = tx [l.getD k 0, l.getD (k + 1) 0] := by
 rw [extract_tx]
 have e1 : ((k : Nat) : Int).toNat = k := by omega
 have e2 : (((k : Nat) : Int) + 2).toNat - ((k : Nat) : Int).toNat = 2 := by omega
 rw [e2, e1, drop_cons (by omega), drop_cons h]; rfl
theorem p_signEnd (l : List UInt8) (hl : okText l) (k : Nat) (hk : k < l.length) : Pure Tryd.prog 67 [pStr (tx l), pInt .i64 (k : Int)] (pInt .i64 ((k + sigL (l.drop k) : Nat) : Int)) := by
 have tz := tx_size l
 have hl' : l.length ≤ 140737488351232 := hl
 have ps := p_indexsing (l.getD k 0)
 have hs := sing_ix (l.getD k 0)
 refine pure_of Tryd.func67 (by rfl) rfl (by kernel_rfl) (by rfl) ?_
 by_cases q : k + 1 < l.length
 ·rw [drop_cons hk, drop_cons q, sigL_2]
  ((conv => whnf); repeat' ((first | (with_reducible first | apply a_ | apply b_ | apply c_) | ((with_reducible first | apply d_ | apply e_ | apply f_ | apply g_); focus first | omega | (simp only [q_] <;> omega)) | ((with_reducible first | apply i_ | apply h_); focus first | omega | (simp only [q_] <;> omega)) | ((with_reducible apply h_); focus first | decide | kernel_rfl) | refine BCase.t (by decide) ?_ | refine BCase.f (by decide) ?_ | with_reducible first | apply l_ | apply m_ | apply n_ | apply o_ | refine p_ (fun _ => ?_) (fun _ => ?_)) <;> (conv => whnf)))
  refine LoopC.mk Nat (fun m => [(0, pStr (tx l)), (1, pInt .i64 (k : Int)), (5, pInt .i64 ((2 * m : Nat) : Int))]) (fun _ => []) [] (fun m => m ≤ 3 ∧ ∀ j, j < m → [l.getD k 0, l.getD (k + 1) 0] ≠ pairL j) (fun m => 3 - m) 0 ⟨Nat.zero_le _, fun j h => absurd h (Nat.not_lt_zero _)⟩ ?start ?round
  case start => exact ⟨[], rfl, rfl, ⟨.inl rfl, .inl rfl, .inl rfl, trivial⟩, trivial⟩
  case round =>
   rintro m ⟨hm, hp⟩
   have hm : m ≤ 3 := hm
   by_cases m3 : m < 3
   ·have e1 := two_tx q
    have e2 : (⟨#[60, 62, 60, 61, 62, 61]⟩ : ByteArray).extract ((2 * m : Nat) : Int).toNat (((2 * m : Nat) : Int) + 2).toNat = tx (pairL m) := by
     have : ∀ m, m < 3 → (⟨#[60, 62, 60, 61, 62, 61]⟩ : ByteArray).extract ((2 * m : Nat) : Int).toNat (((2 * m : Nat) : Int) + 2).toNat = tx (pairL m) := by decide +kernel
     exact this m m3
    by_cases hx : [l.getD k 0, l.getD (k + 1) 0] = pairL m
    ·rw [if_pos ((pairB_iff _ _).2 ⟨m, m3, hx⟩)]
     have ex : (tx l).extract ((k : Nat) : Int).toNat (((k : Nat) : Int) + 2).toNat = (⟨#[60, 62, 60, 61, 62, 61]⟩ : ByteArray).extract ((2 * m : Nat) : Int).toNat (((2 * m : Nat) : Int) + 2).toNat := by rw [e1, e2, hx]
     ((conv => whnf); repeat' ((first | (with_reducible first | apply a_ | apply b_ | apply c_) | ((with_reducible first | apply d_ | apply e_ | apply f_ | apply g_); focus first | omega | (simp only [q_] <;> omega)) | ((with_reducible first | apply i_ | apply h_); focus first | omega | (simp only [q_] <;> omega)) | ((with_reducible apply h_); focus first | decide | kernel_rfl) | refine BCase.t (by decide) ?_ | refine BCase.f (by decide) ?_ | (refine Need.mk (by show (0 : Int) ≤ ((2 * m : Nat) : Int) ∧ ((2 * m : Nat) : Int) ≤ ((2 * m : Nat) : Int) + 2 ∧ ((2 * m : Nat) : Int) + 2 ≤ (6 : Int); omega) ?_) | (refine BCase.dt ex ?_) | with_reducible first | apply l_ | apply m_ | apply n_ | apply o_ | refine p_ (fun _ => ?_) (fun _ => ?_)) <;> (conv => whnf)))
     exact Ret.int (by omega)
    ·have ex : ¬ (tx l).extract ((k : Nat) : Int).toNat (((k : Nat) : Int) + 2).toNat = (⟨#[60, 62, 60, 61, 62, 61]⟩ : ByteArray).extract ((2 * m : Nat) : Int).toNat (((2 * m : Nat) : Int) + 2).toNat := by rw [e1, e2]; exact fun h => hx (tx_inj h)
     ((conv => whnf); repeat' ((first | (with_reducible first | apply a_ | apply b_ | apply c_) | ((with_reducible first | apply d_ | apply e_ | apply f_ | apply g_); focus first | omega | (simp only [q_] <;> omega)) | ((with_reducible first | apply i_ | apply h_); focus first | omega | (simp only [q_] <;> omega)) | ((with_reducible apply h_); focus first | decide | kernel_rfl) | refine BCase.t (by decide) ?_ | refine BCase.f (by decide) ?_ | (refine Need.mk (by show (0 : Int) ≤ ((2 * m : Nat) : Int) ∧ ((2 * m : Nat) : Int) ≤ ((2 * m : Nat) : Int) + 2 ∧ ((2 * m : Nat) : Int) + 2 ≤ (6 : Int); omega) ?_) | (refine BCase.df ex ?_) | with_reducible first | apply l_ | apply m_ | apply n_ | apply o_ | refine p_ (fun _ => ?_) (fun _ => ?_)) <;> (conv => whnf)))
     refine ⟨m + 1, ⟨by omega, fun j hj => ?_⟩, by omega, [], rfl, rfl, ⟨.inl rfl, .inl rfl, PLe.int (by omega), trivial⟩, trivial⟩
     by_cases h : j = m
     ·rw [h]; exact hx
     ·exact hp j (by omega)
   ·have hn : ¬ pairB (l.getD k 0) (l.getD (k + 1) 0) = true := by
     rw [pairB_iff]
     rintro ⟨j, h1, h2⟩
     exact hp j (by omega) h2
    rw [if_neg hn]
    by_cases hb : singB (l.getD k 0) = true
    ·have := hs.2 hb
     rw [if_pos hb]
     ((conv => whnf); repeat' ((first | (with_reducible first | apply a_ | apply b_ | apply c_) | ((with_reducible first | apply d_ | apply e_ | apply f_ | apply g_); focus first | omega | (simp only [q_] <;> omega)) | ((with_reducible first | apply i_ | apply h_); focus first | omega | (simp only [q_] <;> omega)) | ((with_reducible apply h_); focus first | decide | kernel_rfl) | refine BCase.t (by decide) ?_ | refine BCase.f (by decide) ?_ | (refine SIdx.tx k rfl hk ?_) | refine CallP.pure _ rfl _ (ps) ?_ | with_reducible first | apply l_ | apply m_ | apply n_ | apply o_ | refine p_ (fun _ => ?_) (fun _ => ?_)) <;> (conv => whnf)))
     exact Ret.int (by omega)
    ·have : ¬ 0 ≤ Lib.indexByte singL (l.getD k 0) := fun x => hb (hs.1 x)
     rw [if_neg hb]
     ((conv => whnf); repeat' ((first | (with_reducible first | apply a_ | apply b_ | apply c_) | ((with_reducible first | apply d_ | apply e_ | apply f_ | apply g_); focus first | omega | (simp only [q_] <;> omega)) | ((with_reducible first | apply i_ | apply h_); focus first | omega | (simp only [q_] <;> omega)) | ((with_reducible apply h_); focus first | decide | kernel_rfl) | refine BCase.t (by decide) ?_ | refine BCase.f (by decide) ?_ | (refine SIdx.tx k rfl hk ?_) | refine CallP.pure _ rfl _ (ps) ?_ | with_reducible first | apply l_ | apply m_ | apply n_ | apply o_ | refine p_ (fun _ => ?_) (fun _ => ?_)) <;> (conv => whnf)))
     exact Ret.int (by omega)
 ·rw [drop_cons hk, List.drop_of_length_le (show l.length ≤ k + 1 by omega), sigL_1]
  by_cases hb : singB (l.getD k 0) = true
  ·have := hs.2 hb
   rw [if_pos hb]
   ((conv => whnf); repeat' ((first | (with_reducible first | apply a_ | apply b_ | apply c_) | ((with_reducible first | apply d_ | apply e_ | apply f_ | apply g_); focus first | omega | (simp only [q_] <;> omega)) | ((with_reducible first | apply i_ | apply h_); focus first | omega | (simp only [q_] <;> omega)) | ((with_reducible apply h_); focus first | decide | kernel_rfl) | refine BCase.t (by decide) ?_ | refine BCase.f (by decide) ?_ | (refine SIdx.tx k rfl hk ?_) | refine CallP.pure _ rfl _ (ps) ?_ | with_reducible first | apply l_ | apply m_ | apply n_ | apply o_ | refine p_ (fun _ => ?_) (fun _ => ?_)) <;> (conv => whnf)))
   exact Ret.int (by omega)
  ·have : ¬ 0 ≤ Lib.indexByte singL (l.getD k 0) := fun x => hb (hs.1 x)
   rw [if_neg hb]
   ((conv => whnf); repeat' ((first | (with_reducible first | apply a_ | apply b_ | apply c_) | ((with_reducible first | apply d_ | apply e_ | apply f_ | apply g_); focus first | omega | (simp only [q_] <;> omega)) | ((with_reducible first | apply i_ | apply h_); focus first | omega | (simp only [q_] <;> omega)) | ((with_reducible apply h_); focus first | decide | kernel_rfl) | refine BCase.t (by decide) ?_ | refine BCase.f (by decide) ?_ | (refine SIdx.tx k rfl hk ?_) | refine CallP.pure _ rfl _ (ps) ?_ | with_reducible first | apply l_ | apply m_ | apply n_ | apply o_ | refine p_ (fun _ => ?_) (fun _ => ?_)) <;> (conv => whnf)))
   exact Ret.int (by omega)
end Go.Proofs.YtmcmagfondjopaaDoor.Pm
end
section
namespace Go.Proofs.YtmcmagfondjopaaDoor.Pm
open Go.RowKit K
set_option linter.unusedVariables false
set_option linter.unusedSimpArgs false
set_option maxRecDepth 100000
abbrev tV (x : TokenD) : PV := .agg (x.c.map D.c)
abbrev tkV (t : Tk) : PV := tV (tokD 0 t)
theorem hasPre_2 (c : UInt8) (r : List UInt8) : hasPre (c :: r) [45, 45] = decide (c.toNat = 45 ∧ (r.headD 0).toNat = 45) := by
 have e : ∀ d : UInt8, d = 45 ↔ d.toNat = 45 := fun d => ⟨fun h => by rw [h]; rfl, fun h => by rw [← u8_back d, h]; rfl⟩
 unfold hasPre
 cases r with
 | nil => exact decide_eq_decide.2 ⟨fun h => by simp at h, fun h => by simp at h⟩
 | cons d r =>
  refine decide_eq_decide.2 ?_
  show [c, d] = [45, 45] ↔ c.toNat = 45 ∧ d.toNat = 45
  simp [e]
abbrev zTok : List D := [.c (.v (.int .i64 0)), .c (.v (.int .i64 0)), .c (.v (.int .i64 0)), .c (.v (.string ⟨#[]⟩))]
theorem run_take {p : UInt8 → Bool} {l : List UInt8} {k : Nat} : (l.drop k).take (runTo p l k - k) = (l.drop k).takeWhile p := by
 unfold runTo
 rw [Nat.add_sub_cancel_left]
 conv => lhs; arg 2; rw [← List.takeWhile_append_dropWhile (p := p) (l := l.drop k)]
 rw [List.take_left]
theorem run_len {p : UInt8 → Bool} {l : List UInt8} {k : Nat} : ((l.drop k).takeWhile p).length = runTo p l k - k := by unfold runTo; omega
theorem runTo_ge {p : UInt8 → Bool} {l : List UInt8} {k : Nat} : k ≤ runTo p l k := Nat.le_add_right _ _
end Go.Proofs.YtmcmagfondjopaaDoor.Pm
end
section
namespace Go.Proofs.YtmcmagfondjopaaDoor.Pm
open Go.RowKit K
set_option linter.unusedVariables false
set_option linter.unusedSimpArgs false
set_option maxRecDepth 100000
theorem smB_x (c : UInt8) : (((smB c).toNat : Nat) : Int) = 120 ↔ isX c = true := by
 unfold isX
 rw [decide_eq_true_eq]
 by_cases h : upB c = true
 ·have := smB_up h
  have hu := of_decide_eq_true h
  omega
 ·have h : upB c = false := Bool.eq_false_iff.2 h
  rw [smB_no h]
  have hu := of_decide_eq_false h
  omega
theorem getD_lt {l : List UInt8} {k n : Nat} (h : (l.getD k 0).toNat = n) (hn : n ≠ 0) : k < l.length := by
 apply Decidable.byContradiction
 intro hk
 rw [List.getD_eq_getElem?_getD, List.getElem?_eq_none (by omega)] at h
 exact hn h.symm
end Go.Proofs.YtmcmagfondjopaaDoor.Pm
end
section
namespace Go.Proofs.YtmcmagfondjopaaDoor.Pm
open Go.RowKit K
set_option linter.unusedVariables false
set_option linter.unusedSimpArgs false
set_option maxRecDepth 100000
def nmap (seen : List (List UInt8)) : List (ByteArray × Value) := seen.map fun s => (tx s, .agg #[])
theorem mpGet_nmap : ∀ (seen : List (List UInt8)) (s : List UInt8), mpGet (nmap seen) (tx s) = if s ∈ seen then some (.agg #[]) else none
 | [], s => rfl
 | a :: l, s => by
  show (bif decide (tx s = tx a) then _ else _) = _
  by_cases h : s = a
  ·subst h; simp
  ·have : ¬ tx s = tx a := fun e => h (tx_inj e)
   rw [decide_eq_false this, cond_false]
   show mpGet (nmap l) (tx s) = _
   rw [mpGet_nmap l s]
   simp [h]
theorem mpPut_nmap : ∀ (seen : List (List UInt8)) (s : List UInt8), mpPut (nmap seen) (tx s) (.agg #[]) = if s ∈ seen then nmap seen else nmap (seen ++ [s])
 | [], s => rfl
 | a :: l, s => by
  show (bif decide (tx s = tx a) then _ else _) = _
  by_cases h : s = a
  ·subst h; simp [nmap]
  ·have : ¬ tx s = tx a := fun e => h (tx_inj e)
   rw [decide_eq_false this, cond_false]
   show _ :: mpPut (nmap l) (tx s) _ = _
   rw [mpPut_nmap l s]
   by_cases h2 : s ∈ l
   ·simp [h2, nmap]
   ·simp [h, h2, nmap]
theorem nmap_plain (seen : List (List UInt8)) : ∀ p ∈ nmap seen, plainV p.2 = true := by
 intro p hp
 obtain ⟨s, _, rfl⟩ := List.mem_map.1 hp
 rfl
end Go.Proofs.YtmcmagfondjopaaDoor.Pm
end
section
namespace Go.Proofs.YtmcmagfondjopaaDoor.Pm
open Go.RowKit K
set_option linter.unusedVariables false
set_option linter.unusedSimpArgs false
set_option maxRecDepth 100000
structure ColumnD where
 Name : List UInt8
 Kind : Int
 NotNull : Bool
 Unique : Bool
def ColumnD.c (x : ColumnD) : List C := [.v (.string (tx x.Name)), .v (.int .i64 x.Kind), .v (.bool x.NotNull), .v (.bool x.Unique)]
def ColumnD.ok (x : ColumnD) : Prop := okText x.Name ∧ okInt x.Kind ∧ okAny x.NotNull ∧ okAny x.Unique
def ColumnD.eqB (x y : ColumnD) : Bool := (decide (tx x.Name = tx y.Name) && (decide (x.Kind = y.Kind) && ((x.NotNull == y.NotNull) && ((x.Unique == y.Unique) && true))))
theorem ColumnD.eqB_iff (x y : ColumnD) : ColumnD.eqB x y = true ↔ x = y := by
 cases x; cases y
 simp [ColumnD.eqB, tx_eq]
structure SchemaD where
 Id : Int
 Name : List UInt8
 Cols : List ColumnD
def SchemaD.c (x : SchemaD) : List C := [.v (.int .i64 x.Id), .v (.string (tx x.Name)), .sl 4 (x.Cols.map ColumnD.c)]
abbrev cV (x : ColumnD) : PV := .agg (x.c.map D.c)
abbrev sV (x : SchemaD) : PV := .agg (x.c.map D.c)
def SchemaD.eqB (x y : SchemaD) : Bool := decide (x.Id = y.Id) && (decide (tx x.Name = tx y.Name) && listEqB ColumnD.eqB x.Cols y.Cols)
theorem SchemaD.eqB_iff (x y : SchemaD) : SchemaD.eqB x y = true ↔ x = y := by
 cases x; cases y
 simp [SchemaD.eqB, listEqB_iff ColumnD.eqB_iff, tx_eq]
def colsGo (seen : List (List UInt8)) : List ColumnD → Int
 | [] => 0
 | c :: r => if nameB c.Name = false then 1 else if c.Kind < 0 ∨ 3 < c.Kind then 7 else if c.Name ∈ seen then 6 else colsGo (seen ++ [c.Name]) r
def colsChk (l : List ColumnD) : Int := if l.length = 0 then 1 else if 6 < l.length then 2 else colsGo [] l
def schGo (last : Int) (seen : List (List UInt8)) : List SchemaD → Int
 | [] => 0
 | s :: r => if s.Id < 1 ∨ 999 < s.Id then 3 else if s.Id ≤ last then 4 else if nameB s.Name = false then 1 else if colsChk s.Cols ≠ 0 then colsChk s.Cols else if s.Name ∈ seen then 6 else schGo s.Id (seen ++ [s.Name]) r
def schChk (l : List SchemaD) : Int := if 6 < l.length then 2 else schGo 0 [] l
abbrev nsz (n : Nat) : Prop := n ≤ 140737488355328
def colsSh (l : List ColumnD) : Prop := nsz l.length ∧ ∀ c ∈ l, okText c.Name
def schSh (l : List SchemaD) : Prop := nsz l.length ∧ ∀ s ∈ l, okText s.Name ∧ colsSh s.Cols
theorem mem_take {α : Type} {f : α → List UInt8} {l : List α} {k : Nat} {s : List UInt8} : s ∈ (l.take k).map f ↔ ∃ j, ∃ h : j < l.length, j < k ∧ f l[j] = s := by
 rw [List.mem_map]
 constructor
 ·rintro ⟨x, hx, rfl⟩
  obtain ⟨j, hj, rfl⟩ := List.getElem_of_mem hx
  rw [List.length_take] at hj
  exact ⟨j, by omega, by omega, by rw [List.getElem_take]⟩
 ·rintro ⟨j, h, h2, rfl⟩
  exact ⟨l[j], List.mem_take_iff_getElem.2 ⟨j, by omega, rfl⟩, rfl⟩
end Go.Proofs.YtmcmagfondjopaaDoor.Pm
end
section
namespace Go.Proofs.YtmcmagfondjopaaDoor.Pm
open Go.RowKit K
set_option linter.unusedVariables false
set_option linter.unusedSimpArgs false
set_option maxRecDepth 100000
end Go.Proofs.YtmcmagfondjopaaDoor.Pm
end
section
namespace Go.Proofs.YtmcmagfondjopaaDoor.Pm
open Go.RowKit K
set_option linter.unusedVariables false
set_option linter.unusedSimpArgs false
set_option maxRecDepth 100000
structure EntryD where
 Id : Int
 Row : List ValueD
def EntryD.c (x : EntryD) : List C := [.v (.int .i64 x.Id), .sl 3 (x.Row.map ValueD.c)]
def EntryD.ok (x : EntryD) : Prop := okInt x.Id ∧ (okSl (Tryd.prog.bytesOf 35) ValueD.ok) x.Row
def rowChk (l : List ValueD) : Int := if 8 < l.length then 2 else vChkAll l
def riseE (id last : Int) : Int := if id < 1 then 3 else if id ≤ last then 4 else 0
def entGo (last : Int) : List EntryD → Int
 | [] => 0
 | x :: r => if riseE x.Id last ≠ 0 then riseE x.Id last else if rowChk x.Row ≠ 0 then rowChk x.Row else entGo x.Id r
def entChk (l : List EntryD) : Int := if 40 < l.length then 2 else entGo 0 l
def EntryD.eqB (x y : EntryD) : Bool := decide (x.Id = y.Id) && listEqB ValueD.eqB x.Row y.Row
theorem EntryD.eqB_iff (x y : EntryD) : EntryD.eqB x y = true ↔ x = y := by
 cases x; cases y
 simp [EntryD.eqB, listEqB_iff ValueD.eqB_iff]
abbrev rowsShort (l : List EntryD) : Prop := ∀ x ∈ l, x.Row.length ≤ 140737488355328
abbrev idBox (n : Int) : HB := .box 2 [.c (.v (.int .i64 n))]
end Go.Proofs.YtmcmagfondjopaaDoor.Pm
end
section
namespace Go.Proofs.YtmcmagfondjopaaDoor.Pm
open Go.RowKit K
set_option linter.unusedVariables false
set_option linter.unusedSimpArgs false
set_option maxRecDepth 100000
def flagB (b : Bool) (c : UInt8) : UInt8 := if b then c else 45
def colH (c : ColumnD) : List UInt8 := [by1 (48 + c.Kind), flagB c.NotNull 110, flagB c.Unique 117]
def colT (c : ColumnD) : List UInt8 := colH c ++ c.Name
def colV (c : ColumnD) : ValueD := ⟨2, 0, colT c⟩
def kindOk (c : ColumnD) : Prop := 0 ≤ c.Kind ∧ c.Kind ≤ 3
def entOf (s : SchemaD) : EntryD := ⟨s.Id, ⟨2, 0, s.Name⟩ :: s.Cols.map colV⟩
abbrev eV (x : EntryD) : PV := .agg (x.c.map D.c)
def unC (v : ValueD) : ColumnD := ⟨v.S.drop 3, ((v.S.getD 0 0).toNat : Int) - 48, decide (v.S.getD 1 0 = 110), decide (v.S.getD 2 0 = 117)⟩
def unShort (v : ValueD) : Prop := v.Kind ≠ 2 ∨ v.S.length < 3
def unB (v : ValueD) : Bool := decide (v.Kind = 2) && (decide (3 ≤ v.S.length) && (decide (0 ≤ (unC v).Kind) && (decide ((unC v).Kind ≤ 3) && ValueD.eqB (colV (unC v)) v)))
def unR (v : ValueD) : ColumnD := if v.Kind ≠ 2 ∨ v.S.length < 3 then ⟨[], 0, false, false⟩ else unC v
theorem tup2 {a b : PV} {x y : Bool} (h : a = b) (k : x = y) : PV.tup [a, pBool x] = PV.tup [b, pBool y] := by rw [h, k]
theorem u8_dec (a b : UInt8) : decide ((a.toNat : Int) = (b.toNat : Int)) = decide (a = b) := by
 by_cases h : a = b
 ·simp [h]
 ·rw [decide_eq_false h, decide_eq_false fun e => h (u8_eq.1 e)]
end Go.Proofs.YtmcmagfondjopaaDoor.Pm
end
section
namespace Go.Proofs.YtmcmagfondjopaaDoor.Pm
open Go.RowKit K
set_option linter.unusedVariables false
set_option linter.unusedSimpArgs false
set_option maxRecDepth 100000
def schB (x : EntryD) : Bool := match x.Row with
 | [] => false
 | v :: r => decide (v.Kind = 2) && r.all unB
def schS (x : EntryD) : SchemaD := match x.Row with
 | [] => ⟨0, [], []⟩
 | v :: r => ⟨x.Id, v.S, r.map unC⟩
def rowText (l : List ValueD) : Prop := l.length * 32 ≤ 140737488351232 ∧ ∀ v ∈ l, okText v.S
def entText (l : List EntryD) : Prop := l.length * 32 ≤ 140737488351232 ∧ ∀ x ∈ l, rowText x.Row
theorem unB_kind {v : ValueD} (h : unB v = true) : ¬ (v.Kind ≠ 2 ∨ v.S.length < 3) := by
 unfold unB at h
 simp only [Bool.and_eq_true, decide_eq_true_eq] at h
 omega
theorem unR_unC {v : ValueD} (h : unB v = true) : unR v = unC v := if_neg (unB_kind h)
abbrev tVal : Nat := 35
theorem map_take_snoc {α β : Type} {f : α → β} {l : List α} {k : Nat} (h : k < l.length) : (l.take k).map f ++ [f l[k]] = (l.take (k + 1)).map f := by
 rw [take_snoc h, List.map_append]; rfl
def catE (l : List EntryD) : Int := if entChk l ≠ 0 then entChk l else if l.all schB = false then 1 else schChk (l.map schS)
def catL (l : List EntryD) : List SchemaD := if catE l = 0 then l.map schS else []
theorem schS_sh {x : EntryD} (h : rowText x.Row) (hb : schB x = true) : okText (schS x).Name ∧ colsSh (schS x).Cols := by
 obtain ⟨id, row⟩ := x
 cases row with
 | nil => cases hb
 | cons v r =>
  obtain ⟨h1, h2⟩ := h
  refine ⟨h2 v (List.mem_cons_self ..), ?_, ?_⟩
  ·show (r.map unC).length ≤ _
   rw [List.length_map]
   have : (r.length + 1) * 32 ≤ 140737488351232 := h1
   omega
  ·intro c hc
   obtain ⟨w, hw, rfl⟩ := List.mem_map.1 hc
   have := h2 w (List.mem_cons_of_mem _ hw)
   unfold okText unC at *
   simp only [List.length_drop]; omega
theorem schS_all {l : List EntryD} (h : entText l) (hb : l.all schB = true) : schSh (l.map schS) := by
 refine ⟨by have := h.1; show _ ≤ _; rw [List.length_map]; omega, fun s hs => ?_⟩
 obtain ⟨x, hx, rfl⟩ := List.mem_map.1 hs
 exact schS_sh (h.2 x hx) (List.all_eq_true.1 hb x hx)
theorem entText_short {l : List EntryD} (h : entText l) : rowsShort l := fun x hx => by have := (h.2 x hx).1; omega
end Go.Proofs.YtmcmagfondjopaaDoor.Pm
end
section
namespace Go.Proofs.YtmcmagfondjopaaDoor.Pm
open Go.RowKit K
set_option linter.unusedVariables false
set_option linter.unusedSimpArgs false
set_option maxRecDepth 100000
theorem colsGo_ok : ∀ {l : List ColumnD} {seen : List (List UInt8)}, colsGo seen l = 0 → ∀ c ∈ l, kindOk c ∧ nameB c.Name = true
 | [], _, _, c, hc => by cases hc
 | x :: l, seen, h, c, hc => by
  unfold colsGo at h
  split at h
  ·cases h
  ·split at h
   ·cases h
   ·split at h
    ·cases h
    ·rename_i h1 h2 h3
     rcases List.mem_cons.1 hc with rfl | hc
     ·exact ⟨⟨by omega, by omega⟩, by simpa using h1⟩
     ·exact colsGo_ok h c hc
theorem colsChk_ok {l : List ColumnD} (h : colsChk l = 0) : (1 ≤ l.length ∧ l.length ≤ 6) ∧ ∀ c ∈ l, kindOk c ∧ nameB c.Name = true := by
 unfold colsChk at h
 split at h
 ·cases h
 ·split at h
  ·cases h
  ·exact ⟨by omega, colsGo_ok h⟩
theorem schGo_ok : ∀ {l : List SchemaD} {last : Int} {seen : List (List UInt8)}, schGo last seen l = 0 → ∀ s ∈ l, colsChk s.Cols = 0 ∧ nameB s.Name = true ∧ (1 ≤ s.Id ∧ s.Id ≤ 999)
 | [], _, _, _, s, hs => by cases hs
 | x :: l, last, seen, h, s, hs => by
  unfold schGo at h
  split at h
  ·cases h
  ·split at h
   ·cases h
   ·split at h
    ·cases h
    ·split at h
     ·rename_i h4; exact absurd h h4
     ·split at h
      ·cases h
      ·rename_i h1 h2 h3 h4 h5
       rcases List.mem_cons.1 hs with rfl | hs
       ·exact ⟨by omega, by simpa using h3, by omega⟩
       ·exact schGo_ok h s hs
theorem schChk_ok {l : List SchemaD} (h : schChk l = 0) : l.length ≤ 6 ∧ ∀ s ∈ l, colsChk s.Cols = 0 ∧ nameB s.Name = true ∧ (1 ≤ s.Id ∧ s.Id ≤ 999) := by
 unfold schChk at h
 split at h
 ·cases h
 ·exact ⟨by omega, schGo_ok h⟩
def rowsL (l : List SchemaD) : List EntryD := if schChk l = 0 then l.map entOf else []
end Go.Proofs.YtmcmagfondjopaaDoor.Pm
end
section
namespace Go.Proofs.YtmcmagfondjopaaDoor.Pm
open Go.RowKit K
set_option linter.unusedVariables false
set_option linter.unusedSimpArgs false
set_option maxRecDepth 100000
def digL (n : Nat) : List UInt8 := if n = 0 then [] else Lib.decDigits n
theorem digL_step {n : Nat} (h : n ≠ 0) : digL n = digL (n / 10) ++ [UInt8.ofNat (48 + n % 10)] := by
 unfold digL
 rw [if_neg h, Lib.decDigits]
 by_cases h10 : n < 10
 ·rw [dif_pos h10, if_pos (by omega), show n % 10 = n by omega]; rfl
 ·rw [dif_neg h10, if_neg (by omega)]
theorem digL_len : ∀ (k n : Nat), n < 10 ^ k → (digL n).length ≤ k
 | 0, n, h => by
  have : n = 0 := by simpa using h
  subst this
  simp [digL]
 | k + 1, n, h => by
  by_cases h0 : n = 0
  ·subst h0; simp [digL]
  ·rw [digL_step h0, List.length_append, List.length_singleton]
   have := digL_len k (n / 10) (by rw [Nat.pow_succ] at h; omega)
   omega
end Go.Proofs.YtmcmagfondjopaaDoor.Pm
end
section
namespace Go.Proofs.YtmcmagfondjopaaDoor.Pm
open Go.RowKit K
set_option linter.unusedVariables false
set_option linter.unusedSimpArgs false
set_option maxRecDepth 100000
theorem most1_dig : tx [57, 50, 50, 51, 51, 55, 50, 48, 51, 54, 56, 53, 52, 55, 55, 53, 56, 48, 55] = ⟨#[57, 50, 50, 51, 51, 55, 50, 48, 51, 54, 56, 53, 52, 55, 55, 53, 56, 48, 55]⟩ := rfl
end Go.Proofs.YtmcmagfondjopaaDoor.Pm
end
section
namespace Go.Proofs.YtmcmagfondjopaaDoor.Pm
open Go.RowKit K
set_option linter.unusedVariables false
set_option linter.unusedSimpArgs false
set_option maxRecDepth 100000
theorem inner_get {s : List UInt8} {j : Nat} (h : j < (innerL s).length) : s.getD (j + 1) 0 = (innerL s)[j] := by
 have h2 : j + 1 < s.length := by unfold innerL at h; rw [List.length_take, List.length_drop] at h; omega
 have e : (innerL s)[j]? = s[j + 1]? := by
  have h3 : j < s.length - 2 := by unfold innerL at h; rw [List.length_take, List.length_drop] at h; omega
  unfold innerL
  rw [List.getElem?_take, if_pos h3, List.getElem?_drop, Nat.add_comm]
 rw [List.getElem?_eq_getElem h] at e
 rw [List.getD_eq_getElem?_getD, ← e]; rfl
theorem inner_len {s : List UInt8} (h : 2 ≤ s.length) : (innerL s).length = s.length - 2 := by unfold innerL; rw [List.length_take, List.length_drop]; omega
theorem one_tx {s : List UInt8} {k : Nat} (h : k < s.length) : (tx s).extract ((k : Nat) : Int).toNat (((k : Nat) : Int) + 1).toNat = tx [s.getD k 0] := by
 rw [extract_tx]
 have e1 : ((k : Nat) : Int).toNat = k := by omega
 have e2 : (((k : Nat) : Int) + 1).toNat - ((k : Nat) : Int).toNat = 1 := by omega
 rw [e2, e1, List.drop_eq_getElem_cons h, List.getD_eq_getElem?_getD, List.getElem?_eq_getElem h]; rfl
theorem unq_drop_o {m : List UInt8} {j : Nat} (h : j < m.length) (hb : m[j] ≠ 39) : unq (m.drop j) = thenL [m[j]] (unq (m.drop (j + 1))) := by
 rw [List.drop_eq_getElem_cons h, unq_o hb]; rfl
theorem unq_drop_q {m : List UInt8} {j : Nat} (h : j + 1 < m.length) (hb : m[j]'(by omega) = 39) : unq (m.drop j) = if m[j + 1] = 39 then thenL [39] (unq (m.drop (j + 2))) else none := by
 rw [List.drop_eq_getElem_cons (by omega), List.drop_eq_getElem_cons h, hb, unq_q]; rfl
theorem unq_drop_1 {m : List UInt8} {j : Nat} (h : j < m.length) (h1 : ¬ j + 1 < m.length) (hb : m[j] = 39) : unq (m.drop j) = none := by
 rw [List.drop_eq_getElem_cons h, List.drop_of_length_le (by omega), hb]; exact unq_1
theorem thenL_then (a b : List UInt8) (o : Option (List UInt8)) : thenL a (thenL b o) = thenL (a ++ b) o := by
 unfold thenL
 cases o <;> simp
end Go.Proofs.YtmcmagfondjopaaDoor.Pm
end
section
namespace Go.Proofs.YtmcmagfondjopaaDoor.Pm
open Go.RowKit K
set_option linter.unusedVariables false
set_option linter.unusedSimpArgs false
set_option maxRecDepth 100000
theorem inB_lt {l : List UInt8} {k : Nat} {p : UInt8 → Bool} (h : k < l.length) : inB l k p = p (l.getD k 0) := by unfold inB; rw [decide_eq_true h]; rfl
theorem inB_ge {l : List UInt8} {k : Nat} {p : UInt8 → Bool} (h : l.length ≤ k) : inB l k p = false := by unfold inB; rw [decide_eq_false (by omega)]; rfl
theorem qrun : ∀ (m : Nat) (r : List UInt8), m ≤ r.length → (∀ j, j < m → (r.getD j 0).toNat = 39) → ((r.drop m).headD 0).toNat ≠ 39 → qLen r = if m % 2 = 1 then some m else (qLen (r.drop m)).map (· + m)
 | 0, r, _, _, _ => by
  rw [if_neg (by decide), List.drop_zero]
  cases qLen r <;> rfl
 | 1, r, h1, h2, h3 => by
  rw [if_pos (by decide)]
  cases r with
  | nil => simp at h1
  | cons c r =>
   have hc : c.toNat = 39 := h2 0 (by decide)
   cases r with
   | nil => exact qLen_1 hc
   | cons d r =>
    have h3 : d.toNat ≠ 39 := h3
    rw [qLen_q hc, if_neg h3]
 | m + 2, r, h1, h2, h3 => by
  match r, h1, h2, h3 with
  | [], h1, _, _ => simp at h1
  | [_], h1, _, _ => simp at h1
  | c :: d :: r, h1, h2, h3 =>
   have hc : c.toNat = 39 := h2 0 (by omega)
   have hd : d.toNat = 39 := h2 1 (by omega)
   rw [List.length_cons, List.length_cons] at h1
   have ih := qrun m r (by omega) (fun j hj => h2 (j + 2) (by omega)) h3
   rw [qLen_q hc, if_pos hd, ih, show (c :: d :: r).drop (m + 2) = r.drop m from rfl, show (m + 2) % 2 = m % 2 by omega]
   split
   ·rfl
   ·cases qLen (r.drop m) with
    | none => rfl
    | some n => rfl
def qEndR (l : List UInt8) (k : Nat) : Int := match qLen (l.drop (k + 1)) with
 | none => -1
 | some n => ((k + 1 + n : Nat) : Int)
end Go.Proofs.YtmcmagfondjopaaDoor.Pm
end
section
namespace Go.Proofs.YtmcmagfondjopaaDoor.Pm
open Go.RowKit K
set_option linter.unusedVariables false
set_option linter.unusedSimpArgs false
set_option maxRecDepth 100000
theorem hexw_sm (c : UInt8) : hexw false (smB c) = hexw true c := by
 have h : ∀ n : Nat, n < 256 → hexw false (smB (UInt8.ofNat n)) = hexw true (UInt8.ofNat n) := by decide +kernel
 have := h c.toNat c.toNat_lt
 rwa [u8_back] at this
theorem unhex_sm : ∀ (N : Nat) (m : List UInt8), m.length ≤ N → unhex false (m.map smB) = unhex true m
 | _, [], _ => rfl
 | _, [_], _ => rfl
 | 0, _ :: _ :: _, hN => by simp at hN
 | N + 1, a :: b :: r, hN => by
  rw [List.length_cons, List.length_cons] at hN
  show unhex false (smB a :: smB b :: r.map smB) = _
  rw [unhex, unhex, hexw_sm, hexw_sm, unhex_sm N r (by omega)]
theorem smB_39 (c : UInt8) : smB c = 39 ↔ c = 39 := by
 have h : ∀ n : Nat, n < 256 → (smB (UInt8.ofNat n) = 39 ↔ UInt8.ofNat n = 39) := by decide +kernel
 have := h c.toNat c.toNat_lt
 rwa [u8_back] at this
theorem inner_map (s : List UInt8) (f : UInt8 → UInt8) : innerL (s.map f) = (innerL s).map f := by
 unfold innerL
 rw [List.length_map, ← List.map_drop, ← List.map_take]
theorem hexL_sm (s : List UInt8) : hexL false (s.map smB) = hexL true s := by
 have e1 : (s.map smB).headD 0 = 39 ↔ s.headD 0 = 39 := by
  cases s with
  | nil => exact Iff.rfl
  | cons a r => exact smB_39 a
 have e2 : (s.map smB).getLastD 0 = 39 ↔ s.getLastD 0 = 39 := by
  by_cases h : s = []
  ·subst h; exact Iff.rfl
  ·have hm : s.map smB ≠ [] := fun e => h (List.map_eq_nil_iff.1 e)
   have h1 : (s.map smB).getLastD 0 = smB (s.getLastD 0) := by
    rw [List.getLastD_eq_getLast?, List.getLastD_eq_getLast?, List.getLast?_map]
    cases hs : s.getLast? with
    | none => rw [List.getLast?_eq_none_iff] at hs; exact absurd hs h
    | some x => rfl
   rw [h1]; exact smB_39 _
 unfold hexL
 rw [List.length_map, inner_map, unhex_sm _ _ (Nat.le_refl _)]
 by_cases c : s.length < 2 ∨ s.length % 2 ≠ 0 ∨ s.headD 0 ≠ 39 ∨ s.getLastD 0 ≠ 39
 ·rw [if_pos c, if_pos]
  rcases c with c | c | c | c
  ·exact .inl c
  ·exact .inr (.inl c)
  ·exact .inr (.inr (.inl fun x => c (e1.1 x)))
  ·exact .inr (.inr (.inr fun x => c (e2.1 x)))
 ·rw [if_neg c, if_neg]
  rintro (x | x | x | x)
  ·exact c (.inl x)
  ·exact c (.inr (.inl x))
  ·exact c (.inr (.inr (.inl fun y => x (e1.2 y))))
  ·exact c (.inr (.inr (.inr fun y => x (e2.2 y))))
def pairRows : List (List C) := [[.v (.string ⟨#[60, 62]⟩)], [.v (.string ⟨#[60, 61]⟩)], [.v (.string ⟨#[62, 61]⟩)]]
theorem pairRows_get {m : Nat} (h : m < 3) : pairRows[m]? = some [.v (.string (tx (pairL m)))] := by
 have : m = 0 ∨ m = 1 ∨ m = 2 := by omega
 rcases this with rfl | rfl | rfl <;> rfl
theorem singB_iff (c : UInt8) : singB c = true ↔ ∃ i, i < 12 ∧ singL.getD i 0 = c := by
 unfold singB
 rw [List.any_eq_true]
 constructor
 ·rintro ⟨b, hb, h⟩
  obtain ⟨i, hi, rfl⟩ := List.mem_iff_getElem.1 hb
  refine ⟨i, hi, ?_⟩
  rw [List.getD_eq_getElem?_getD, List.getElem?_eq_getElem hi]
  exact (of_decide_eq_true h).symm
 ·rintro ⟨i, hi, rfl⟩
  have hi : i < singL.length := hi
  refine ⟨_, List.getElem_mem hi, ?_⟩
  rw [List.getD_eq_getElem?_getD, List.getElem?_eq_getElem hi]
  exact decide_eq_true rfl
end Go.Proofs.YtmcmagfondjopaaDoor.Pm
end
section
namespace Go.Proofs.YtmcmagfondjopaaDoor.Pm
open Go.RowKit K
set_option linter.unusedVariables false
set_option linter.unusedSimpArgs false
set_option maxRecDepth 100000
def tokR (k : Nat) (x : Tk × Int × Nat) : PV := .tup [tV (if x.2.1 = 0 then tokD k x.1 else ⟨0, 0, 0, []⟩), pInt .i64 ((if x.2.1 = 0 then k + x.2.2 else 0 : Nat) : Int), pInt .i64 x.2.1]
theorem p_in1 (l : List UInt8) (hl : okText l) (k : Nat) (lo hi : Int) : Pure Tryd.prog 75 [pStr (tx l), pInt .i64 ((k : Int) + 1), pInt .i64 lo, pInt .i64 hi] (pBool (decide (k + 1 < l.length ∧ lo ≤ (l.getD (k + 1) 0).toNat ∧ ((l.getD (k + 1) 0).toNat : Int) ≤ hi))) := p_in l hl (k + 1) lo hi
theorem nTok_eq (r : List UInt8) (h : ¬ headB letB (r.dropWhile digB) = true) : nTok r = ((2, (digV (r.takeWhile digB) most1 : Int), []), digE (r.takeWhile digB) most1, (r.takeWhile digB).length) := if_neg h
theorem intO_dig (s : List UInt8) : (intO s false).2 = digE s most1 ∧ ((intO s false).2 = 0 → (intO s false).1 = (digV s most1 : Int)) := by
 rw [digE_all]
 by_cases ha : allB s = true
 ·rw [intO_ok false ha (fun x => by cases x), if_neg (show ¬ allB s = false by rw [ha]; decide)]
  by_cases hb : most1 < dval s
  ·rw [if_pos (show (if (false : Bool) = true then most2 else most1) < dval s from hb), if_pos hb]
   exact ⟨rfl, fun h => by cases h⟩
  ·rw [if_neg (show ¬ (if (false : Bool) = true then most2 else most1) < dval s from hb), if_neg hb]
   refine ⟨rfl, fun _ => ?_⟩
   show (dval s : Int) = _
   have : digE s most1 = 0 := by rw [digE_all, if_neg (show ¬ allB s = false by rw [ha]; decide), if_neg hb]
   unfold digV
   rw [if_pos this]
 ·have hf : allB s = false := Bool.eq_false_iff.2 ha
  rw [intO_bad false hf, if_pos hf]
  exact ⟨rfl, fun h => by cases h⟩
end Go.Proofs.YtmcmagfondjopaaDoor.Pm
end
section
namespace Go.Proofs.YtmcmagfondjopaaDoor.Pm
open Go.RowKit K
set_option linter.unusedVariables false
set_option linter.unusedSimpArgs false
set_option maxRecDepth 100000
end Go.Proofs.YtmcmagfondjopaaDoor.Pm
end
section
namespace Go.Proofs.YtmcmagfondjopaaDoor.Pm
open Go.RowKit K
set_option linter.unusedVariables false
set_option linter.unusedSimpArgs false
set_option maxRecDepth 100000
theorem intO_le (s : List UInt8) (b : Bool) : -9223372036854775808 ≤ (intO s b).1 ∧ (intO s b).1 ≤ 9223372036854775807 := by
 unfold intO
 by_cases h1 : allB s = false ∨ (b = true ∧ s = [48])
 ·rw [if_pos h1]; exact ⟨by decide, by decide⟩
 ·rw [if_neg h1]
  by_cases h2 : (if b = true then most2 else most1) < dval s
  ·rw [if_pos h2]; exact ⟨(by decide : (-9223372036854775808 : Int) ≤ 0), (by decide : (0 : Int) ≤ 9223372036854775807)⟩
  ·rw [if_neg h2]
   cases b with
   | true =>
    have h : ¬ 9223372036854775808 < dval s := h2
    show (-9223372036854775808 : Int) ≤ -(dval s : Int) ∧ -(dval s : Int) ≤ 9223372036854775807
    omega
   | false =>
    have h : ¬ 9223372036854775807 < dval s := h2
    show (-9223372036854775808 : Int) ≤ (dval s : Int) ∧ (dval s : Int) ≤ 9223372036854775807
    omega
theorem Wr.eq {k : IntKind} {x y : Int} {K : Int → Prop} (h : x = y) (hw : Wr k y K) : Wr k x K := by rw [h]; exact hw
end Go.Proofs.YtmcmagfondjopaaDoor.Pm
end
section
namespace Go.Proofs.YtmcmagfondjopaaDoor.Pm
open Go.RowKit
set_option linter.unusedVariables false
set_option linter.unusedSimpArgs false
set_option maxRecDepth 100000
abbrev nilP : D := .c (.v (.pointer none))
abbrev nilS : D := .c (.v (.slice none 0 0))
abbrev tByte : Nat := 5
abbrev bRows (s : ByteArray) : List (List C) := byteRows s.data.toList
theorem fz_swap {c : Ctx} {σ : Sg} {h h' : Hp} {hs k T T' : Nat} {l l' : List D} (hk : h k = some (.box T l)) (hk' : h' k = some (.box T' l')) (ho : ∀ j, j ≠ k → h' j = h j) : Fz c σ h' hs = Fz c σ h hs := by
 funext b o
 unfold Fz
 apply propext
 refine or_congr_right (and_congr_right fun _ => and_congr_right fun _ => ⟨fun q j m hb h1 h2 => ?_, fun q j m hb h1 h2 => ?_⟩)
 ·by_cases hj : j = k
  ·subst hj; exact (q j m _ hk' h2).elim
  ·exact q j m hb (by rw [ho j hj]; exact h1) h2
 ·by_cases hj : j = k
  ·subst hj; exact (q j m _ hk h2).elim
  ·exact q j m hb (by rw [← ho j hj]; exact h1) h2
theorem sw_swap {c : Ctx} {σ : Sg} {h h' : Hp} {w : World} {k T : Nat} {l l' : List D} (hs : SW c σ h w) (hk : h k = some (.box T l)) (hk' : h' k = some (.box T l')) (ho : ∀ j, j ≠ k → h' j = h j)
  (hok : HbOk σ (fz c σ h w) w c.own k (.box T l')) : SW c σ h' w ∧ fz c σ h' w = fz c σ h w := by
 have hf : Fz c σ h' w.heap.size = Fz c σ h w.heap.size := fz_swap hk hk' ho
 refine ⟨⟨hs.os, hs.tape, hs.output, hs.size, hs.block, fun j hb hj => ?_, fun j j' g n n' h1 h2 => hs.inj j j' g n n' ?_ ?_, by rw [hf]; exact hs.kept, hs.shape, hs.sg0⟩, hf⟩
 ·rw [hf]
  by_cases hjk : j = k
  ·subst hjk; rw [hk'] at hj; cases hj; exact hok
  ·exact hs.hp j hb (by rw [← ho j hjk]; exact hj)
 ·by_cases hjk : j = k
  ·subst hjk; rw [hk]; simp
  ·rw [← ho j hjk]; exact h1
 ·by_cases hjk : j' = k
  ·subst hjk; rw [hk]; simp
  ·rw [← ho j' hjk]; exact h2
theorem CallS.opt {P : Program} {f : FuncId} {args : List PV} {K T K' o : Nat} {l : List D} {rf out : Rf} {res : PV}
  (h1 : CallS P f args [] ((K, .box T (nilP :: l)) :: rf) res out) (h2 : CallS P f args [] ((K, .box T (.ptr K' o :: l)) :: rf) res out) :
  CallS P f args [] ((K, .box T (.optp K' o :: l)) :: rf) res out := by
 refine ⟨h1.1, fun c vs hc hdf hf hs ha => ?_⟩
 have hat : ∀ b, hpL ([] ++ (K, b) :: rf) K = some b := fun b => by unfold hpL; rw [List.nil_append]; simp
 have hoth : ∀ b b' j, j ≠ K → hpL ([] ++ (K, b) :: rf) j = hpL ([] ++ (K, b') :: rf) j := fun b b' j hj => by
  simp only [List.nil_append, hpL]
  have : Nat.beq j K = false := by rw [Bool.eq_false_iff]; intro e; exact hj (Nat.eq_of_beq_eq_true e)
  rw [this]; rfl
 obtain ⟨g, n, cs, e1, e2, e3, e4⟩ := hs.hp K _ (hat _)
 cases hcs : cs.toList with
 | nil => rw [hcs] at e4; unfold DsRep at e4; exact e4.elim
 | cons u us =>
  rw [hcs] at e4
  unfold DsRep at e4
  obtain ⟨e4, e5⟩ := e4
  unfold DRep at e4
  rcases e4 with rfl | ⟨g', n', q1, q2⟩
  ·obtain ⟨r1, r2⟩ := sw_swap (l' := nilP :: l) hs (hat _) (hat _) (fun j hj => hoth _ _ j hj) ⟨g, n, cs, e1, e2, e3, by
    rw [hcs]; unfold DsRep; exact ⟨by unfold DRep CRep; exact ⟨rfl, rfl⟩, e5⟩⟩
   exact h1.2 c vs hc hdf (fun k hk => hf k hk) r1 (by rw [r2]; exact ha)
  ·obtain ⟨r1, r2⟩ := sw_swap (l' := .ptr K' o :: l) hs (hat _) (hat _) (fun j hj => hoth _ _ j hj) ⟨g, n, cs, e1, e2, e3, by
    rw [hcs]; unfold DsRep; exact ⟨by unfold DRep; exact ⟨g', n', q1, q2⟩, e5⟩⟩
   exact h2.2 c vs hc hdf (fun k hk => hf k hk) r1 (by rw [r2]; exact ha)
end Go.Proofs.YtmcmagfondjopaaDoor.Pm
end
section
namespace Go.Proofs.YtmcmagfondjopaaDoor.Pm
open Go.RowKit
set_option linter.unusedVariables false
set_option linter.unusedSimpArgs false
set_option maxRecDepth 100000
end Go.Proofs.YtmcmagfondjopaaDoor.Pm
end
section
namespace Go.Proofs.YtmcmagfondjopaaDoor.Pm
open Go.RowKit K
set_option linter.unusedVariables false
set_option linter.unusedSimpArgs false
set_option maxRecDepth 100000
def tFrm (t : TokenD) : Prop := (t.Kind = 2 ∧ t.S ≠ []) ∨ (t.Kind ≠ 2 ∧ t.N ≠ 0) ∨ (t.Kind = 1 ∧ wordB t.S = false) ∨ (t.Kind = 5 ∧ (t.S = [] ∨ sigL t.S ≠ t.S.length))
instance (t : TokenD) : Decidable (tFrm t) := by unfold tFrm; exact inferInstance
def tLong (t : TokenD) : Prop := (t.Kind = 1 ∧ 12 < t.S.length) ∨ ((t.Kind = 3 ∨ t.Kind = 4) ∧ 16 < t.S.length)
instance (t : TokenD) : Decidable (tLong t) := by unfold tLong; exact inferInstance
def tChk (t : TokenD) : Int := if t.Kind < 1 ∨ 5 < t.Kind then 7 else if tFrm t then 1 else if tLong t then 2 else if t.N < 0 then 3 else 0
theorem p_tcheck (t : TokenD) (ht : okText t.S) : Pure Tryd.prog 58 [tV t] (pInt .i64 (tChk t)) := by
 have tz := tx_size t.S
 have he := tx_empty (l := t.S)
 have pw := p_isword t.S ht
 unfold tChk
 refine pure_of Tryd.func58 (by rfl) rfl (by kernel_rfl) (by rfl) ?_
 by_cases h1 : t.Kind < 1 ∨ 5 < t.Kind
 ·rw [if_pos h1]
  ((conv => whnf); repeat' ((first | (with_reducible first | apply a_ | apply b_ | apply c_) | ((with_reducible first | apply d_ | apply e_ | apply f_ | apply g_); focus first | omega | (simp only [q_] <;> omega)) | ((with_reducible first | apply i_ | apply h_); focus first | omega | (simp only [q_] <;> omega)) | ((with_reducible apply h_); focus first | decide | kernel_rfl) | refine BCase.t (by decide) ?_ | refine BCase.f (by decide) ?_ | with_reducible first | apply l_ | apply m_ | apply n_ | apply o_ | refine p_ (fun _ => ?_) (fun _ => ?_)) <;> (conv => whnf)))
  all_goals first | exact Ret.int rfl | (exfalso; omega)
 rw [if_neg h1]
 by_cases k2 : t.Kind = 2
 ·by_cases hs : t.S = []
  ·have hx : ¬ ¬ tx t.S = ⟨#[]⟩ := not_not_intro (he.2 hs)
   rw [if_neg (show ¬ tFrm t by rintro (⟨_, x⟩ | ⟨x, _⟩ | ⟨x, _⟩ | ⟨x, _⟩) <;> first | exact x hs | exact x k2 | omega), if_neg (show ¬ tLong t by rintro (⟨x, _⟩ | ⟨x, _⟩) <;> omega)]
   by_cases hn : t.N < 0
   ·rw [if_pos hn]
    ((conv => whnf); repeat' ((first | (with_reducible first | apply a_ | apply b_ | apply c_) | ((with_reducible first | apply d_ | apply e_ | apply f_ | apply g_); focus first | omega | (simp only [q_] <;> omega)) | ((with_reducible first | apply i_ | apply h_); focus first | omega | (simp only [q_] <;> omega)) | ((with_reducible apply h_); focus first | decide | kernel_rfl) | refine BCase.t (by decide) ?_ | refine BCase.f (by decide) ?_ | (refine BCase.df hx ?_) | with_reducible first | apply l_ | apply m_ | apply n_ | apply o_ | refine p_ (fun _ => ?_) (fun _ => ?_)) <;> (conv => whnf)))
    all_goals first | exact Ret.int rfl | (exfalso; omega)
   ·rw [if_neg hn]
    ((conv => whnf); repeat' ((first | (with_reducible first | apply a_ | apply b_ | apply c_) | ((with_reducible first | apply d_ | apply e_ | apply f_ | apply g_); focus first | omega | (simp only [q_] <;> omega)) | ((with_reducible first | apply i_ | apply h_); focus first | omega | (simp only [q_] <;> omega)) | ((with_reducible apply h_); focus first | decide | kernel_rfl) | refine BCase.t (by decide) ?_ | refine BCase.f (by decide) ?_ | (refine BCase.df hx ?_) | with_reducible first | apply l_ | apply m_ | apply n_ | apply o_ | refine p_ (fun _ => ?_) (fun _ => ?_)) <;> (conv => whnf)))
    all_goals first | exact Ret.int rfl | (exfalso; omega)
  ·have hx : ¬ tx t.S = ⟨#[]⟩ := fun x => hs (he.1 x)
   rw [if_pos (show tFrm t from .inl ⟨k2, hs⟩)]
   ((conv => whnf); repeat' ((first | (with_reducible first | apply a_ | apply b_ | apply c_) | ((with_reducible first | apply d_ | apply e_ | apply f_ | apply g_); focus first | omega | (simp only [q_] <;> omega)) | ((with_reducible first | apply i_ | apply h_); focus first | omega | (simp only [q_] <;> omega)) | ((with_reducible apply h_); focus first | decide | kernel_rfl) | refine BCase.t (by decide) ?_ | refine BCase.f (by decide) ?_ | (refine BCase.dt hx ?_) | with_reducible first | apply l_ | apply m_ | apply n_ | apply o_ | refine p_ (fun _ => ?_) (fun _ => ?_)) <;> (conv => whnf)))
   all_goals first | exact Ret.int rfl | (exfalso; omega)
 ·by_cases hn0 : t.N = 0
  ·have hnn : ¬ t.N < 0 := by omega
   by_cases k1 : t.Kind = 1
   ·cases hw : wordB t.S with
    | false =>
     rw [hw] at pw
     rw [if_pos (show tFrm t from .inr (.inr (.inl ⟨k1, hw⟩)))]
     ((conv => whnf); repeat' ((first | (with_reducible first | apply a_ | apply b_ | apply c_) | ((with_reducible first | apply d_ | apply e_ | apply f_ | apply g_); focus first | omega | (simp only [q_] <;> omega)) | ((with_reducible first | apply i_ | apply h_); focus first | omega | (simp only [q_] <;> omega)) | ((with_reducible apply h_); focus first | decide | kernel_rfl) | refine BCase.t (by decide) ?_ | refine BCase.f (by decide) ?_ | refine CallP.pure _ rfl _ (pw) ?_ | with_reducible first | apply l_ | apply m_ | apply n_ | apply o_ | refine p_ (fun _ => ?_) (fun _ => ?_)) <;> (conv => whnf)))
     all_goals first | exact Ret.int rfl | (exfalso; omega)
    | true =>
     rw [hw] at pw
     rw [if_neg (show ¬ tFrm t by rintro (⟨x, _⟩ | ⟨_, x⟩ | ⟨_, x⟩ | ⟨x, _⟩) <;> first | exact k2 x | exact x hn0 | exact absurd (hw.symm.trans x) (by decide) | omega)]
     by_cases h12 : 12 < t.S.length
     ·rw [if_pos (show tLong t from .inl ⟨k1, h12⟩)]
      ((conv => whnf); repeat' ((first | (with_reducible first | apply a_ | apply b_ | apply c_) | ((with_reducible first | apply d_ | apply e_ | apply f_ | apply g_); focus first | omega | (simp only [q_] <;> omega)) | ((with_reducible first | apply i_ | apply h_); focus first | omega | (simp only [q_] <;> omega)) | ((with_reducible apply h_); focus first | decide | kernel_rfl) | refine BCase.t (by decide) ?_ | refine BCase.f (by decide) ?_ | refine CallP.pure _ rfl _ (pw) ?_ | with_reducible first | apply l_ | apply m_ | apply n_ | apply o_ | refine p_ (fun _ => ?_) (fun _ => ?_)) <;> (conv => whnf)))
      all_goals first | exact Ret.int rfl | (exfalso; omega)
     ·rw [if_neg (show ¬ tLong t by rintro (⟨_, x⟩ | ⟨x, _⟩) <;> omega), if_neg hnn]
      ((conv => whnf); repeat' ((first | (with_reducible first | apply a_ | apply b_ | apply c_) | ((with_reducible first | apply d_ | apply e_ | apply f_ | apply g_); focus first | omega | (simp only [q_] <;> omega)) | ((with_reducible first | apply i_ | apply h_); focus first | omega | (simp only [q_] <;> omega)) | ((with_reducible apply h_); focus first | decide | kernel_rfl) | refine BCase.t (by decide) ?_ | refine BCase.f (by decide) ?_ | refine CallP.pure _ rfl _ (pw) ?_ | with_reducible first | apply l_ | apply m_ | apply n_ | apply o_ | refine p_ (fun _ => ?_) (fun _ => ?_)) <;> (conv => whnf)))
      all_goals first | exact Ret.int rfl | (exfalso; omega)
   ·by_cases k5 : t.Kind = 5
    ·by_cases hs : t.S = []
     ·have hx : tx t.S = ⟨#[]⟩ := he.2 hs
      rw [if_pos (show tFrm t from .inr (.inr (.inr ⟨k5, .inl hs⟩)))]
      ((conv => whnf); repeat' ((first | (with_reducible first | apply a_ | apply b_ | apply c_) | ((with_reducible first | apply d_ | apply e_ | apply f_ | apply g_); focus first | omega | (simp only [q_] <;> omega)) | ((with_reducible first | apply i_ | apply h_); focus first | omega | (simp only [q_] <;> omega)) | ((with_reducible apply h_); focus first | decide | kernel_rfl) | refine BCase.t (by decide) ?_ | refine BCase.f (by decide) ?_ | refine CallP.pure _ rfl _ (pw) ?_ | (refine BCase.dt hx ?_) | with_reducible first | apply l_ | apply m_ | apply n_ | apply o_ | refine p_ (fun _ => ?_) (fun _ => ?_)) <;> (conv => whnf)))
      all_goals first | exact Ret.int rfl | (exfalso; omega)
     ·have hx : ¬ tx t.S = ⟨#[]⟩ := fun x => hs (he.1 x)
      have ps := p_signEnd t.S ht 0 (List.length_pos_iff.2 hs)
      rw [List.drop_zero, Nat.zero_add] at ps
      by_cases hg : sigL t.S = t.S.length
      ·rw [if_neg (show ¬ tFrm t by rintro (⟨x, _⟩ | ⟨_, x⟩ | ⟨x, _⟩ | ⟨_, x | x⟩) <;> first | exact k2 x | exact x hn0 | omega | exact hs x | exact x hg), if_neg (show ¬ tLong t by rintro (⟨x, _⟩ | ⟨x, _⟩) <;> omega), if_neg hnn]
       ((conv => whnf); repeat' ((first | (with_reducible first | apply a_ | apply b_ | apply c_) | ((with_reducible first | apply d_ | apply e_ | apply f_ | apply g_); focus first | omega | (simp only [q_] <;> omega)) | ((with_reducible first | apply i_ | apply h_); focus first | omega | (simp only [q_] <;> omega)) | ((with_reducible apply h_); focus first | decide | kernel_rfl) | refine BCase.t (by decide) ?_ | refine BCase.f (by decide) ?_ | refine CallP.pure _ rfl _ (pw) ?_ | refine CallP.pure _ rfl _ (ps) ?_ | (refine BCase.df hx ?_) | with_reducible first | apply l_ | apply m_ | apply n_ | apply o_ | refine p_ (fun _ => ?_) (fun _ => ?_)) <;> (conv => whnf)))
       all_goals first | exact Ret.int rfl | (exfalso; omega)
      ·rw [if_pos (show tFrm t from .inr (.inr (.inr ⟨k5, .inr hg⟩)))]
       ((conv => whnf); repeat' ((first | (with_reducible first | apply a_ | apply b_ | apply c_) | ((with_reducible first | apply d_ | apply e_ | apply f_ | apply g_); focus first | omega | (simp only [q_] <;> omega)) | ((with_reducible first | apply i_ | apply h_); focus first | omega | (simp only [q_] <;> omega)) | ((with_reducible apply h_); focus first | decide | kernel_rfl) | refine BCase.t (by decide) ?_ | refine BCase.f (by decide) ?_ | refine CallP.pure _ rfl _ (pw) ?_ | refine CallP.pure _ rfl _ (ps) ?_ | (refine BCase.df hx ?_) | with_reducible first | apply l_ | apply m_ | apply n_ | apply o_ | refine p_ (fun _ => ?_) (fun _ => ?_)) <;> (conv => whnf)))
       all_goals first | exact Ret.int rfl | (exfalso; omega)
    ·rw [if_neg (show ¬ tFrm t by rintro (⟨x, _⟩ | ⟨_, x⟩ | ⟨x, _⟩ | ⟨x, _⟩) <;> first | exact k2 x | exact x hn0 | omega)]
     by_cases h16 : 16 < t.S.length
     ·rw [if_pos (show tLong t from .inr ⟨by omega, h16⟩)]
      ((conv => whnf); repeat' ((first | (with_reducible first | apply a_ | apply b_ | apply c_) | ((with_reducible first | apply d_ | apply e_ | apply f_ | apply g_); focus first | omega | (simp only [q_] <;> omega)) | ((with_reducible first | apply i_ | apply h_); focus first | omega | (simp only [q_] <;> omega)) | ((with_reducible apply h_); focus first | decide | kernel_rfl) | refine BCase.t (by decide) ?_ | refine BCase.f (by decide) ?_ | refine CallP.pure _ rfl _ (pw) ?_ | with_reducible first | apply l_ | apply m_ | apply n_ | apply o_ | refine p_ (fun _ => ?_) (fun _ => ?_)) <;> (conv => whnf)))
      all_goals first | exact Ret.int rfl | (exfalso; omega)
     ·rw [if_neg (show ¬ tLong t by rintro (⟨x, _⟩ | ⟨_, x⟩) <;> omega), if_neg hnn]
      ((conv => whnf); repeat' ((first | (with_reducible first | apply a_ | apply b_ | apply c_) | ((with_reducible first | apply d_ | apply e_ | apply f_ | apply g_); focus first | omega | (simp only [q_] <;> omega)) | ((with_reducible first | apply i_ | apply h_); focus first | omega | (simp only [q_] <;> omega)) | ((with_reducible apply h_); focus first | decide | kernel_rfl) | refine BCase.t (by decide) ?_ | refine BCase.f (by decide) ?_ | refine CallP.pure _ rfl _ (pw) ?_ | with_reducible first | apply l_ | apply m_ | apply n_ | apply o_ | refine p_ (fun _ => ?_) (fun _ => ?_)) <;> (conv => whnf)))
      all_goals first | exact Ret.int rfl | (exfalso; omega)
  ·rw [if_pos (show tFrm t from .inr (.inl ⟨k2, hn0⟩))]
   ((conv => whnf); repeat' ((first | (with_reducible first | apply a_ | apply b_ | apply c_) | ((with_reducible first | apply d_ | apply e_ | apply f_ | apply g_); focus first | omega | (simp only [q_] <;> omega)) | ((with_reducible first | apply i_ | apply h_); focus first | omega | (simp only [q_] <;> omega)) | ((with_reducible apply h_); focus first | decide | kernel_rfl) | refine BCase.t (by decide) ?_ | refine BCase.f (by decide) ?_ | refine CallP.pure _ rfl _ (pw) ?_ | with_reducible first | apply l_ | apply m_ | apply n_ | apply o_ | refine p_ (fun _ => ?_) (fun _ => ?_)) <;> (conv => whnf)))
   all_goals first | exact Ret.int rfl | (exfalso; omega)
def tChkAll : List TokenD → Int
 | [] => 0
 | t :: l => if tChk t ≠ 0 then tChk t else tChkAll l
theorem tChkAll_skip : ∀ (l : List TokenD) (k : Nat), (∀ x ∈ l.take k, tChk x = 0) → tChkAll l = tChkAll (l.drop k)
 | [], k, _ => by cases k <;> rfl
 | x :: l, 0, _ => rfl
 | x :: l, k + 1, h => by
  have hx : tChk x = 0 := h x (by simp)
  rw [List.drop_succ_cons]
  show (if tChk x ≠ 0 then _ else _) = _
  rw [if_neg (by simp [hx])]
  exact tChkAll_skip l k fun y hy => h y (by simp [hy])
theorem tChkAll_ok : ∀ {l : List TokenD}, tChkAll l = 0 ↔ ∀ x ∈ l, tChk x = 0
 | [] => by simp [tChkAll]
 | x :: l => by
  show (if tChk x ≠ 0 then tChk x else tChkAll l) = 0 ↔ _
  split
  ·rename_i h; simp [h]
  ·rename_i h; rw [tChkAll_ok (l := l)]; simp at h; simp [h]
theorem tChkAll_at {l : List TokenD} {k : Nat} (hk : k < l.length) (h : ∀ x ∈ l.take k, tChk x = 0) (hx : tChk l[k] ≠ 0) : tChkAll l = tChk l[k] := by
 rw [tChkAll_skip l k h, List.drop_eq_getElem_cons hk]
 show (if tChk l[k] ≠ 0 then _ else _) = _
 rw [if_pos hx]
def tAllE (l : List TokenD) : Int := if 120 < l.length then 2 else tChkAll l
abbrev okTk (l : List TokenD) : Prop := okSl (Tryd.prog.bytesOf 42) TokenD.ok l
theorem p_tcheckall (l : List TokenD) (hl : l.length ≤ 140737488355328) (ht : ∀ t ∈ l, okText t.S) : Pure Tryd.prog 41 [slV 4 TokenD.c l] (pInt .i64 (tAllE l)) := by
 refine pure_of Tryd.func41 (by rfl) rfl (by kernel_rfl) (by rfl) ?_
 unfold tAllE
 by_cases h120 : 120 < l.length
 ·rw [if_pos h120]
  ((conv => whnf); repeat' ((first | (with_reducible first | apply a_ | apply b_ | apply c_) | ((with_reducible first | apply d_ | apply e_ | apply f_ | apply g_); focus first | omega | (simp only [q_] <;> omega)) | ((with_reducible first | apply i_ | apply h_); focus first | omega | (simp only [q_] <;> omega)) | ((with_reducible apply h_); focus first | decide | kernel_rfl) | refine BCase.t (by decide) ?_ | refine BCase.f (by decide) ?_ | with_reducible first | apply l_ | apply m_ | apply n_ | apply o_ | refine p_ (fun _ => ?_) (fun _ => ?_)) <;> (conv => whnf)))
  all_goals first | exact Ret.int rfl | (exfalso; omega)
 ·rw [if_neg h120]
  ((conv => whnf); repeat' ((first | (with_reducible first | apply a_ | apply b_ | apply c_) | ((with_reducible first | apply d_ | apply e_ | apply f_ | apply g_); focus first | omega | (simp only [q_] <;> omega)) | ((with_reducible first | apply i_ | apply h_); focus first | omega | (simp only [q_] <;> omega)) | ((with_reducible apply h_); focus first | decide | kernel_rfl) | refine BCase.t (by decide) ?_ | refine BCase.f (by decide) ?_ | with_reducible first | apply l_ | apply m_ | apply n_ | apply o_ | refine p_ (fun _ => ?_) (fun _ => ?_)) <;> (conv => whnf)))
  refine LoopC.mk Nat (fun k => [(9, slV 4 TokenD.c l), (10, pInt .i64 l.length), (11, pInt .i64 (k : Int))]) (fun _ => []) [] (fun k => k ≤ l.length ∧ ∀ x ∈ l.take k, tChk x = 0) (fun k => l.length - k) 0 ⟨Nat.zero_le _, by simp⟩ ?start ?round
  case start => exact ⟨[], rfl, rfl, ⟨.inl rfl, PLe.int (by simp), .inl rfl, trivial⟩, trivial⟩
  case round =>
   rintro k ⟨hk, hz⟩
   have hk : k ≤ l.length := hk
   have hz : ∀ x ∈ l.take k, tChk x = 0 := hz
   by_cases q : k < l.length
   ·have pc := p_tcheck l[k] (ht _ (List.getElem_mem q))
    by_cases hx : tChk l[k] = 0
    ·((conv => whnf); repeat' ((first | (with_reducible first | apply a_ | apply b_ | apply c_) | ((with_reducible first | apply d_ | apply e_ | apply f_ | apply g_); focus first | omega | (simp only [q_] <;> omega)) | ((with_reducible first | apply i_ | apply h_); focus first | omega | (simp only [q_] <;> omega)) | ((with_reducible apply h_); focus first | decide | kernel_rfl) | refine BCase.t (by decide) ?_ | refine BCase.f (by decide) ?_ | (refine Idx.mapI k rfl q ?_) | refine CallP.pure _ rfl _ (pc) ?_ | with_reducible first | apply l_ | apply m_ | apply n_ | apply o_ | refine p_ (fun _ => ?_) (fun _ => ?_)) <;> (conv => whnf)))
     all_goals first
      | (exfalso; omega)
      | skip
     refine ⟨k + 1, ⟨by show k + 1 ≤ _; omega, fun x h => ?_⟩, by show l.length - (k + 1) < l.length - k; omega, [], rfl, rfl, ⟨.inl rfl, .inl rfl, PLe.int (by omega), trivial⟩, trivial⟩
     rw [take_snoc q, List.mem_append, List.mem_singleton] at h
     rcases h with h | rfl
     ·exact hz x h
     ·exact hx
    ·((conv => whnf); repeat' ((first | (with_reducible first | apply a_ | apply b_ | apply c_) | ((with_reducible first | apply d_ | apply e_ | apply f_ | apply g_); focus first | omega | (simp only [q_] <;> omega)) | ((with_reducible first | apply i_ | apply h_); focus first | omega | (simp only [q_] <;> omega)) | ((with_reducible apply h_); focus first | decide | kernel_rfl) | refine BCase.t (by decide) ?_ | refine BCase.f (by decide) ?_ | (refine Idx.mapI k rfl q ?_) | refine CallP.pure _ rfl _ (pc) ?_ | with_reducible first | apply l_ | apply m_ | apply n_ | apply o_ | refine p_ (fun _ => ?_) (fun _ => ?_)) <;> (conv => whnf)))
     all_goals first
      | (exfalso; omega)
      | exact Ret.int (tChkAll_at q hz hx).symm
   ·((conv => whnf); repeat' ((first | (with_reducible first | apply a_ | apply b_ | apply c_) | ((with_reducible first | apply d_ | apply e_ | apply f_ | apply g_); focus first | omega | (simp only [q_] <;> omega)) | ((with_reducible first | apply i_ | apply h_); focus first | omega | (simp only [q_] <;> omega)) | ((with_reducible apply h_); focus first | decide | kernel_rfl) | refine BCase.t (by decide) ?_ | refine BCase.f (by decide) ?_ | with_reducible first | apply l_ | apply m_ | apply n_ | apply o_ | refine p_ (fun _ => ?_) (fun _ => ?_)) <;> (conv => whnf)))
    rw [tChkAll_ok.2 fun x hx => hz x (by rw [List.take_of_length_le (by omega)]; exact hx)]
    exact Ret.int rfl
def tokB (t : TokenD) : List UInt8 := if t.Kind = 1 ∨ t.Kind = 5 then t.S else showV ⟨t.Kind - 1, t.N, t.S⟩
theorem tChk_ok {t : TokenD} (h : tChk t = 0) : (1 ≤ t.Kind ∧ t.Kind ≤ 5) ∧ ¬ tFrm t ∧ ¬ tLong t ∧ 0 ≤ t.N := by
 unfold tChk at h
 split at h
 ·cases h
 ·split at h
  ·cases h
  ·split at h
   ·cases h
   ·split at h
    ·cases h
    ·rename_i a b c d
     exact ⟨by omega, b, c, by omega⟩
theorem tok_val {t : TokenD} (h : tChk t = 0) (h1 : ¬ (t.Kind = 1 ∨ t.Kind = 5)) : vChk ⟨t.Kind - 1, t.N, t.S⟩ = 0 := by
 obtain ⟨hk, hf, hl, hn⟩ := tChk_ok h
 unfold vChk
 rw [if_neg (by show ¬ (t.Kind - 1 < 0 ∨ 3 < t.Kind - 1); omega), if_neg, if_neg]
 ·show ¬ 16 < t.S.length
  intro h16
  by_cases k2 : t.Kind = 2
  ·have : t.S = [] := Decidable.of_not_not fun x => hf (.inl ⟨k2, x⟩)
   rw [this] at h16; simp at h16
  ·exact hl (.inr ⟨by omega, h16⟩)
 ·show ¬ ((t.Kind - 1 ≠ 1 ∧ t.N ≠ 0) ∨ (t.Kind - 1 < 2 ∧ t.S.length ≠ 0))
  rintro (⟨x, y⟩ | ⟨x, y⟩)
  ·exact hf (.inr (.inl ⟨by omega, y⟩))
  ·exact y (by rw [show t.S = [] from Decidable.of_not_not fun z => hf (.inl ⟨by omega, z⟩)]; rfl)
theorem okTk_len {l : List TokenD} (h : okTk l) : l.length ≤ 140737488355328 := by
 have h1 := h.1
 rw [show Tryd.prog.bytesOf 42 = 40 by kernel_rfl] at h1
 omega
theorem tS_len {t : TokenD} (h : tChk t = 0) : t.S.length ≤ 16 := by
 obtain ⟨hk, hf, hl, _⟩ := tChk_ok h
 apply Decidable.byContradiction
 intro x
 by_cases k1 : t.Kind = 1
 ·exact hl (.inl ⟨k1, by omega⟩)
 ·by_cases k2 : t.Kind = 2
  ·have : t.S = [] := Decidable.of_not_not fun y => hf (.inl ⟨k2, y⟩)
   rw [this] at x; simp at x
  ·by_cases k5 : t.Kind = 5
   ·have hs : sigL t.S = t.S.length := Decidable.of_not_not fun y => hf (.inr (.inr (.inr ⟨k5, .inr y⟩)))
    have := sig_small _ hs
    omega
   ·exact hl (.inr ⟨by omega, by omega⟩)
end Go.Proofs.YtmcmagfondjopaaDoor.Pm
end
section
namespace Go.Proofs.YtmcmagfondjopaaDoor.Pm
open Go.RowKit K
set_option linter.unusedVariables false
set_option linter.unusedSimpArgs false
set_option maxRecDepth 100000
structure NodeD where
 Op : Int
 Kids : Int
 V : ValueD
 Name : List UInt8
def NodeD.c (x : NodeD) : List C := [.v (.int .i64 x.Op), .v (.int .i64 x.Kids)] ++ ValueD.c x.V ++ [.v (.string (tx x.Name))]
def NodeD.ok (x : NodeD) : Prop := okInt x.Op ∧ okInt x.Kids ∧ ValueD.ok x.V ∧ okText x.Name
theorem openC_Node : OpensC Tryd.prog 37 6 NodeD.c NodeD.ok := by
 refine ⟨by kernel_rfl, by decide, ?_⟩
 intro H enc w spare held fuel cs x h hl
 have ht : Tryd.prog.underlying 37 = some (.struct (Tryd.prog.fieldsOf 37)) := by kernel_rfl
 have hlen := struct_len ht h
 rw [show Tryd.prog.cellsOf 37 = 6 by kernel_rfl] at hlen
 obtain ⟨a0, e0, k0⟩ := field_of ht h hl 0 3 0 1 (by kernel_rfl) (openC_int Tryd.underlying3 (by kernel_rfl))
 obtain ⟨a1, e1, k1⟩ := field_of ht h hl 1 3 1 1 (by kernel_rfl) (openC_int Tryd.underlying3 (by kernel_rfl))
 obtain ⟨a2, e2, k2⟩ := field_of ht h hl 2 35 2 3 (by kernel_rfl) openC_Value
 obtain ⟨a3, e3, k3⟩ := field_of ht h hl 3 9 5 1 (by kernel_rfl) (openC_text Tryd.underlying9 (by kernel_rfl))
 have hall : CsRep (FW w) w (eInt a0 ++ (eInt a1 ++ (ValueD.c a2 ++ (eText a3 ++ [])))) (cs.drop 0) := (cs_field e0 (cs_field e1 (cs_field e2 (cs_field e3 (cs_end hlen)))))
 rw [List.drop_zero] at hall
 exact ⟨hlen, ⟨a0, a1, a2, a3⟩, hall, ⟨k0, k1, k2, k3⟩⟩
def NodeD.eqB (x y : NodeD) : Bool := (decide (x.Op = y.Op) && (decide (x.Kids = y.Kids) && (decide (x.V.Kind = y.V.Kind) && (decide (x.V.N = y.V.N) && (decide (tx x.V.S = tx y.V.S) && (decide (tx x.Name = tx y.Name) && true))))))
theorem NodeD.eqB_iff (x y : NodeD) : NodeD.eqB x y = true ↔ x = y := by
 rcases x with ⟨x0, x1, ⟨x20, x21, x22⟩, x3⟩; rcases y with ⟨y0, y1, ⟨y20, y21, y22⟩, y3⟩
 simp [NodeD.eqB, tx_eq, ValueD.mk.injEq, and_assoc]
abbrev nV (x : NodeD) : PV := .agg (x.c.map D.c)
end Go.Proofs.YtmcmagfondjopaaDoor.Pm
end
section
namespace Go.Proofs.YtmcmagfondjopaaDoor.Pm
set_option linter.unusedVariables false
set_option linter.unusedSimpArgs false
set_option maxRecDepth 100000
inductive Ex where
 | mk (n : NodeD) (ks : List Ex)
mutual
def Ex.flat : Ex → List NodeD
 | .mk n ks => Ex.flats ks ++ [n]
def Ex.flats : List Ex → List NodeD
 | [] => []
 | t :: ts => t.flat ++ Ex.flats ts
end
mutual
def Ex.good : Ex → Prop
 | .mk n ks => n.Kids = (ks.length : Int) ∧ Ex.goods ks
def Ex.goods : List Ex → Prop
 | [] => True
 | t :: ts => t.good ∧ Ex.goods ts
end
mutual
def Ex.depth : Ex → Nat
 | .mk _ ks => Ex.depths ks + 1
def Ex.depths : List Ex → Nat
 | [] => 0
 | t :: ts => max t.depth (Ex.depths ts)
end
abbrev Ex.root : Ex → NodeD
 | .mk n _ => n
abbrev Ex.kids : Ex → List Ex
 | .mk _ ks => ks
theorem Ex.flats_append : ∀ (a b : List Ex), Ex.flats (a ++ b) = Ex.flats a ++ Ex.flats b
 | [], b => by simp [Ex.flats]
 | t :: a, b => by rw [List.cons_append, Ex.flats, Ex.flats, Ex.flats_append a b, List.append_assoc]
theorem Ex.goods_append : ∀ {a b : List Ex}, Ex.goods (a ++ b) ↔ Ex.goods a ∧ Ex.goods b
 | [], b => by simp [Ex.goods]
 | t :: a, b => by rw [List.cons_append, Ex.goods, Ex.goods, Ex.goods_append (a := a), and_assoc]
theorem Ex.flats_one (t : Ex) : Ex.flats [t] = t.flat := by simp [Ex.flats]
theorem Ex.flat_pos : ∀ t : Ex, 0 < t.flat.length
 | .mk n ks => by rw [Ex.flat, List.length_append, List.length_singleton]; omega
theorem Ex.flat_ne (t : Ex) : t.flat ≠ [] := fun e => by have := t.flat_pos; rw [e] at this; simp at this
theorem Ex.goods_mem : ∀ {l : List Ex}, Ex.goods l → ∀ t ∈ l, t.good
 | [], _, t, h => by cases h
 | x :: l, hg, t, h => by
  rw [Ex.goods] at hg
  rcases List.mem_cons.1 h with rfl | h
  ·exact hg.1
  ·exact Ex.goods_mem hg.2 t h
theorem Ex.depths_mem : ∀ {l : List Ex}, ∀ t ∈ l, t.depth ≤ Ex.depths l
 | [], t, h => by cases h
 | x :: l, t, h => by
  rw [Ex.depths]
  rcases List.mem_cons.1 h with rfl | h
  ·omega
  ·have := Ex.depths_mem t h
   omega
def walkG {α : Type} (f : NodeD → List α → Except Int α) : List α → List NodeD → Except Int (List α)
 | st, [] => .ok st
 | st, n :: r => if n.Kids < 0 ∨ (st.length : Int) < n.Kids then .error 1 else
  match f n (st.drop (st.length - n.Kids.toNat)) with
  | .error e => .error e
  | .ok x => walkG f (st.take (st.length - n.Kids.toNat) ++ [x]) r
theorem walkG_cons {α : Type} (f : NodeD → List α → Except Int α) (st : List α) (n : NodeD) (r : List NodeD) : walkG f st (n :: r) = if n.Kids < 0 ∨ (st.length : Int) < n.Kids then .error 1 else
  match f n (st.drop (st.length - n.Kids.toNat)) with
  | .error e => .error e
  | .ok x => walkG f (st.take (st.length - n.Kids.toNat) ++ [x]) r := rfl
def walkR {α : Type} (f : NodeD → List α → Except Int α) (e : List NodeD) : Except Int α :=
 match walkG f [] e with
 | .error x => .error x
 | .ok [x] => .ok x
 | .ok _ => .error 1
mutual
def foldX {α : Type} (f : NodeD → List α → Except Int α) : Ex → Except Int α
 | .mk n ks => match foldXs f ks with
  | .error e => .error e
  | .ok vs => f n vs
def foldXs {α : Type} (f : NodeD → List α → Except Int α) : List Ex → Except Int (List α)
 | [] => .ok []
 | t :: ts => match foldX f t with
  | .error e => .error e
  | .ok v => match foldXs f ts with
   | .error e => .error e
   | .ok vs => .ok (v :: vs)
end
theorem foldXs_len {α : Type} {f : NodeD → List α → Except Int α} : ∀ {l : List Ex} {vs : List α}, foldXs f l = .ok vs → vs.length = l.length
 | [], vs, h => by rw [foldXs] at h; cases h; rfl
 | t :: l, vs, h => by
  rw [foldXs] at h
  split at h
  ·cases h
  ·split at h
   ·cases h
   ·rename_i us hu
    cases h
    rw [List.length_cons, List.length_cons, foldXs_len hu]
mutual
theorem walk_fold {α : Type} (f : NodeD → List α → Except Int α) : ∀ (t : Ex), t.good → ∀ (st : List α) (r : List NodeD), walkG f st (t.flat ++ r) = match foldX f t with
  | .error e => .error e
  | .ok v => walkG f (st ++ [v]) r
 | .mk n ks, hg, st, r => by
  rw [Ex.good] at hg
  rw [Ex.flat, List.append_assoc, walk_folds f ks hg.2 st ([n] ++ r), foldX]
  cases hk : foldXs f ks with
  | error e => rfl
  | ok vs =>
   have hl := foldXs_len hk
   show walkG f (st ++ vs) (n :: r) = match f n vs with
    | .error e => .error e
    | .ok v => walkG f (st ++ [v]) r
   have e1 : (st ++ vs).length - n.Kids.toNat = st.length := by rw [List.length_append, hg.1, hl]; simp
   rw [walkG_cons, if_neg (by rw [List.length_append, hg.1, hl]; omega), e1, List.drop_left' rfl, List.take_left' rfl]
theorem walk_folds {α : Type} (f : NodeD → List α → Except Int α) : ∀ (l : List Ex), Ex.goods l → ∀ (st : List α) (r : List NodeD), walkG f st (Ex.flats l ++ r) = match foldXs f l with
  | .error e => .error e
  | .ok vs => walkG f (st ++ vs) r
 | [], _, st, r => by rw [Ex.flats, foldXs, List.nil_append]; simp
 | t :: l, hg, st, r => by
  rw [Ex.goods] at hg
  rw [Ex.flats, List.append_assoc, walk_fold f t hg.1 st, foldXs]
  cases h1 : foldX f t with
  | error e => rfl
  | ok v =>
   show walkG f (st ++ [v]) (Ex.flats l ++ r) = _
   rw [walk_folds f l hg.2]
   cases h2 : foldXs f l with
   | error e => rfl
   | ok vs => simp
end
theorem walkR_fold {α : Type} (f : NodeD → List α → Except Int α) (t : Ex) (hg : t.good) : walkR f t.flat = foldX f t := by
 unfold walkR
 have := walk_fold f t hg [] []
 rw [List.append_nil] at this
 rw [this]
 cases foldX f t <;> rfl
def treeF (n : NodeD) (ks : List Ex) : Except Int Ex := .ok (.mk n ks)
theorem walk_trees : ∀ (e : List NodeD) (st ts : List Ex), Ex.goods st → walkG treeF st e = .ok ts → Ex.goods ts ∧ Ex.flats ts = Ex.flats st ++ e
 | [], st, ts, hg, h => by cases h; exact ⟨hg, by simp⟩
 | n :: r, st, ts, hg, h => by
  rw [walkG_cons] at h
  split at h
  ·cases h
  ·rename_i hk
   have hk1 : ¬ n.Kids < 0 := fun q => hk (.inl q)
   have hk2 : ¬ (st.length : Int) < n.Kids := fun q => hk (.inr q)
   have hsplit := List.take_append_drop (st.length - n.Kids.toNat) st
   have hg2 := hg
   rw [← hsplit, Ex.goods_append] at hg2
   have hnew : Ex.goods (st.take (st.length - n.Kids.toNat) ++ [.mk n (st.drop (st.length - n.Kids.toNat))]) := by
    rw [Ex.goods_append]
    refine ⟨hg2.1, ?_⟩
    rw [Ex.goods, Ex.good, Ex.goods]
    refine ⟨⟨?_, hg2.2⟩, trivial⟩
    rw [List.length_drop]; omega
   obtain ⟨h1, h2⟩ := walk_trees r _ ts hnew h
   refine ⟨h1, ?_⟩
   rw [h2, Ex.flats_append, Ex.flats_one, Ex.flat]
   conv => rhs; rw [← hsplit, Ex.flats_append]
   simp only [List.append_assoc, List.singleton_append]
theorem walkG_trees {α : Type} (f : NodeD → List α → Except Int α) : ∀ (e : List NodeD) (st : List α) (ts : List Ex) (us : List α), st.length = ts.length → walkG f st e = .ok us → ∃ vs, walkG treeF ts e = .ok vs ∧ vs.length = us.length
 | [], st, ts, us, hl, h => by cases h; exact ⟨ts, rfl, hl.symm⟩
 | n :: r, st, ts, us, hl, h => by
  rw [walkG_cons] at h ⊢
  split at h
  ·cases h
  ·rename_i hk
   rw [if_neg (by rw [← hl]; exact hk)]
   split at h
   ·cases h
   ·rename_i x hx
    exact walkG_trees f r _ _ us (by rw [List.length_append, List.length_append, List.length_take, List.length_take, hl]; simp) h
theorem tree_of_walk {α : Type} {f : NodeD → List α → Except Int α} {e : List NodeD} {x : α} (h : walkR f e = .ok x) : ∃ t : Ex, t.good ∧ t.flat = e := by
 unfold walkR at h
 split at h
 ·cases h
 ·rename_i y hy
  obtain ⟨vs, h1, h2⟩ := walkG_trees f e [] [] _ rfl hy
  obtain ⟨h3, h4⟩ := walk_trees e [] vs (by rw [Ex.goods]; trivial) h1
  match vs, h2 with
  | [t], _ =>
   rw [Ex.goods] at h3
   refine ⟨t, h3.1, ?_⟩
   rw [Ex.flats_one] at h4
   rw [h4]; simp [Ex.flats]
 ·cases h
theorem flat_inj {t u : Ex} (ht : t.good) (hu : u.good) (h : t.flat = u.flat) : t = u := by
 have e1 := walkR_fold treeF t ht
 have e2 := walkR_fold treeF u hu
 have id1 : ∀ t : Ex, foldX treeF t = .ok t := by
  have both : (∀ t : Ex, foldX treeF t = .ok t) := by
   intro t
   exact Ex.rec (motive_1 := fun t => foldX treeF t = .ok t) (motive_2 := fun l => foldXs treeF l = .ok l)
    (fun n ks ih => by rw [foldX, ih]; rfl) (by rw [foldXs]) (fun t ts h1 h2 => by rw [foldXs, h1, h2]) t
  exact both
 rw [id1] at e1 e2
 rw [h, e2] at e1
 exact (Except.ok.inj e1).symm
end Go.Proofs.YtmcmagfondjopaaDoor.Pm
end
section
namespace Go.Proofs.YtmcmagfondjopaaDoor.Pm
set_option linter.unusedVariables false
set_option linter.unusedSimpArgs false
set_option maxRecDepth 100000
def bal : List NodeD → Int
 | [] => 0
 | n :: r => 1 - n.Kids + bal r
theorem bal_app : ∀ (a b : List NodeD), bal (a ++ b) = bal a + bal b
 | [], b => by simp [bal]
 | n :: a, b => by rw [List.cons_append, bal, bal, bal_app a b]; omega
mutual
theorem bal_flat : ∀ t : Ex, t.good → bal t.flat = 1
 | .mk n ks, h => by
  rw [Ex.good] at h
  rw [Ex.flat, bal_app, bal_flats ks h.2]
  simp only [bal]
  omega
theorem bal_flats : ∀ l : List Ex, Ex.goods l → bal (Ex.flats l) = l.length
 | [], _ => rfl
 | t :: l, h => by
  rw [Ex.goods] at h
  rw [Ex.flats, bal_app, bal_flat t h.1, bal_flats l h.2, List.length_cons]
  omega
end
theorem walk_bal : ∀ (p : List NodeD) (st ts : List Ex), walkG treeF st p = .ok ts → (ts.length : Int) = st.length + bal p ∧ (p ≠ [] → 1 ≤ ts.length)
 | [], st, ts, h => by cases h; exact ⟨by simp [bal], fun q => absurd rfl q⟩
 | n :: r, st, ts, h => by
  rw [walkG_cons] at h
  split at h
  ·cases h
  ·rename_i hk
   have hk1 : ¬ n.Kids < 0 := fun q => hk (.inl q)
   have hk2 : ¬ (st.length : Int) < n.Kids := fun q => hk (.inr q)
   obtain ⟨h1, h2⟩ := walk_bal r _ ts h
   rw [List.length_append, List.length_take, List.length_singleton] at h1
   refine ⟨by rw [bal]; omega, fun _ => ?_⟩
   by_cases q : r = []
   ·subst q; cases h; rw [List.length_append, List.length_singleton]; omega
   ·exact h2 q
theorem walk_pre {p q : List NodeD} : ∀ {st ts : List Ex}, walkG treeF st (p ++ q) = .ok ts → ∃ us, walkG treeF st p = .ok us := by
 induction p with
 | nil => intro st ts _; exact ⟨st, rfl⟩
 | cons n p ih =>
  intro st ts h
  rw [List.cons_append, walkG_cons] at h
  rw [walkG_cons]
  split at h
  ·cases h
  ·rename_i hk
   rw [if_neg hk]
   exact ih h
theorem foldX_tree (t : Ex) : foldX treeF t = .ok t :=
 Ex.rec (motive_1 := fun t => foldX treeF t = .ok t) (motive_2 := fun l => foldXs treeF l = .ok l)
  (fun n ks ih => by rw [foldX, ih]; rfl) (by rw [foldXs]) (fun t ts h1 h2 => by rw [foldXs, h1, h2]) t
theorem bal_pos {t : Ex} (ht : t.good) {p q : List NodeD} (h : t.flat = p ++ q) (hp : p ≠ []) : 1 ≤ bal p := by
 have hw := walk_fold treeF t ht [] []
 rw [List.append_nil, foldX_tree, h] at hw
 obtain ⟨us, hu⟩ := walk_pre hw
 obtain ⟨h1, h2⟩ := walk_bal p [] us hu
 have := h2 hp
 simp only [List.length_nil] at h1
 omega
theorem need_back {t : Ex} (ht : t.good) {X : List NodeD} {k : Nat} (hk : k ≤ t.flat.length) : 1 - bal (t.flat.drop (t.flat.length - k)) = bal (t.flat.take (t.flat.length - k)) := by
 have h := bal_app (t.flat.take (t.flat.length - k)) (t.flat.drop (t.flat.length - k))
 rw [List.take_append_drop, bal_flat t ht] at h
 omega
theorem back_pos {t : Ex} (ht : t.good) {m : Nat} (hm : m ≤ t.flat.length) : 0 < bal (t.flat.take m) ↔ 0 < m := by
 constructor
 ·intro h
  rcases Nat.eq_zero_or_pos m with rfl | h0
  ·simp [bal] at h
  ·exact h0
 ·intro h
  have := bal_pos ht (List.take_append_drop m t.flat).symm (fun e => by
   have := congrArg List.length e
   rw [List.length_take, List.length_nil] at this
   omega)
  omega
end Go.Proofs.YtmcmagfondjopaaDoor.Pm
end
section
namespace Go.Proofs.YtmcmagfondjopaaDoor.Pm
set_option linter.unusedVariables false
set_option linter.unusedSimpArgs false
set_option maxRecDepth 100000
def noV : ValueD := ⟨0, 0, []⟩
def leastK (op : Int) : Int := if op = 1 ∨ op = 2 then 0 else if op = 3 ∨ op = 4 ∨ op = 18 ∨ op = 19 then 1 else if op = 24 ∨ op = 25 then 3 else 2
def mostK (op : Int) : Int := if op = 22 ∨ op = 23 then 7 else leastK op
def alF (n : NodeD) : Int :=
 if n.Op < 1 ∨ 25 < n.Op then 7
 else if n.Kids < leastK n.Op ∨ mostK n.Op < n.Kids ∨ (n.Op ≠ 1 ∧ ValueD.eqB n.V noV = false) ∨ (n.Op ≠ 2 ∧ n.Name ≠ []) then 1
 else if n.Op = 1 then (if vChk n.V ≠ 0 then vChk n.V else if n.V.N < 0 then 3 else 0)
 else if n.Op = 2 ∧ nameB n.Name = false then 1 else 0
theorem leastK_pos (op : Int) : 0 ≤ leastK op ∧ leastK op ≤ 3 := by unfold leastK; (repeat' split) <;> omega
theorem mostK_le (op : Int) : mostK op ≤ 7 := by have := leastK_pos op; unfold mostK; split <;> omega
theorem alF_kids {n : NodeD} (h : alF n = 0) : 0 ≤ n.Kids ∧ n.Kids ≤ 7 ∧ leastK n.Op ≤ n.Kids ∧ n.Kids ≤ mostK n.Op ∧ 1 ≤ n.Op ∧ n.Op ≤ 25 := by
 have h1 := leastK_pos n.Op
 have h2 := mostK_le n.Op
 unfold alF at h
 split at h
 ·omega
 ·split at h
  ·omega
  ·rename_i h4 h3
   have a1 : ¬ n.Kids < leastK n.Op := fun q => h3 (.inl q)
   have a2 : ¬ mostK n.Op < n.Kids := fun q => h3 (.inr (.inl q))
   omega
def chkO : Nat → List NodeD → Int
 | o, [] => if o ≠ 1 then 1 else 0
 | o, n :: r => if alF n ≠ 0 then alF n else if (o : Int) < n.Kids then 1 else chkO (o + 1 - n.Kids.toNat) r
theorem chkO_cons (o : Nat) (n : NodeD) (r : List NodeD) : chkO o (n :: r) = if alF n ≠ 0 then alF n else if (o : Int) < n.Kids then 1 else chkO (o + 1 - n.Kids.toNat) r := rfl
def maxL : List Nat → Nat
 | [] => 0
 | x :: r => max x (maxL r)
def deepF (n : NodeD) (ks : List Nat) : Except Int Nat := .ok (maxL ks + 1)
def depthE (e : List NodeD) : Nat := match walkR deepF e with
 | .ok d => d
 | .error _ => 0
def checkF (e : List NodeD) : Int := if 60 < e.length then 2 else if chkO 0 e ≠ 0 then chkO 0 e else if 12 < depthE e then 10 else 0
def chkR : List Nat → List NodeD → Int
 | st, [] => if st.length ≠ 1 then 1 else if 12 < st.headD 0 then 10 else 0
 | st, n :: r => if alF n ≠ 0 then alF n else if (st.length : Int) < n.Kids then 1 else chkR (st.take (st.length - n.Kids.toNat) ++ [maxL (st.drop (st.length - n.Kids.toNat)) + 1]) r
theorem chkR_cons (st : List Nat) (n : NodeD) (r : List NodeD) : chkR st (n :: r) = if alF n ≠ 0 then alF n else if (st.length : Int) < n.Kids then 1 else chkR (st.take (st.length - n.Kids.toNat) ++ [maxL (st.drop (st.length - n.Kids.toNat)) + 1]) r := rfl
theorem take_len {α : Type} (st : List α) (k : Nat) (x : α) (h : k ≤ st.length) : (st.take (st.length - k) ++ [x]).length = st.length + 1 - k := by
 rw [List.length_append, List.length_take, List.length_singleton]; omega
theorem chk_walk {α : Type} (f : NodeD → List α → α) : ∀ (e : List NodeD) (st : List α), chkO st.length e = 0 → ∃ x, walkG (fun n ks => .ok (f n ks)) st e = .ok [x]
 | [], st, h => by
  unfold chkO at h
  split at h
  ·cases h
  ·rename_i q
   match st, Decidable.of_not_not q with
   | [x], _ => exact ⟨x, rfl⟩
 | n :: r, st, h => by
  rw [chkO_cons] at h
  split at h
  ·rename_i q; exact absurd h q
  ·rename_i q
   have hk := alF_kids (Decidable.of_not_not q)
   split at h
   ·cases h
   ·rename_i g
    rw [walkG_cons, if_neg (by omega)]
    exact chk_walk f r _ (by rw [take_len _ _ _ (by omega)]; exact h)
theorem chkR_chkO : ∀ (e : List NodeD) (st : List Nat), chkR st e = if chkO st.length e ≠ 0 then chkO st.length e else match walkG deepF st e with
  | .ok [d] => if 12 < d then 10 else 0
  | _ => 0
 | [], st => by
  unfold chkR chkO
  by_cases h : st.length = 1
  ·match st, h with
   | [d], _ => rfl
  ·rw [if_pos h, if_pos h]; rfl
 | n :: r, st => by
  rw [chkR_cons, chkO_cons]
  by_cases q : alF n ≠ 0
  ·rw [if_pos q, if_pos q, if_pos q]
  ·have hk := alF_kids (Decidable.of_not_not q)
   rw [if_neg q, if_neg q]
   by_cases g : (st.length : Int) < n.Kids
   ·rw [if_pos g, if_pos g]; rfl
   ·have g2 : ¬ (n.Kids < 0 ∨ (st.length : Int) < n.Kids) := by omega
    have ih := chkR_chkO r (st.take (st.length - n.Kids.toNat) ++ [maxL (st.drop (st.length - n.Kids.toNat)) + 1])
    rw [take_len _ _ _ (by omega)] at ih
    rw [if_neg g, if_neg g, ih]
    have hw : walkG deepF st (n :: r) = walkG deepF (st.take (st.length - n.Kids.toNat) ++ [maxL (st.drop (st.length - n.Kids.toNat)) + 1]) r := by
     rw [walkG_cons, if_neg g2]; rfl
    rw [hw]
theorem checkR_eq (e : List NodeD) : (if 60 < e.length then 2 else if e.length = 0 then 1 else chkR [] e) = checkF e := by
 unfold checkF
 by_cases h : 60 < e.length
 ·rw [if_pos h, if_pos h]
 ·rw [if_neg h, if_neg h]
  by_cases h0 : e.length = 0
  ·rw [if_pos h0]
   obtain rfl := List.eq_nil_of_length_eq_zero h0
   rfl
  ·rw [if_neg h0, chkR_chkO]
   have e0 : chkO ([] : List Nat).length e = chkO 0 e := rfl
   rw [e0]
   by_cases q : chkO 0 e ≠ 0
   ·rw [if_pos q, if_pos q]
   ·rw [if_neg q, if_neg q]
    obtain ⟨x, hx⟩ := chk_walk (fun _ ks => maxL ks + 1) e [] (Decidable.of_not_not q)
    have hx : walkG deepF [] e = .ok [x] := hx
    unfold depthE walkR
    rw [hx]
theorem chk_all : ∀ (e : List NodeD) (o : Nat), chkO o e = 0 → ∀ n ∈ e, alF n = 0
 | [], _, _, n, h => by cases h
 | m :: r, o, h, n, hn => by
  rw [chkO_cons] at h
  split at h
  ·rename_i q; exact absurd h q
  ·rename_i q
   rcases List.mem_cons.1 hn with rfl | hn
   ·exact Decidable.of_not_not q
   ·split at h
    ·cases h
    ·exact chk_all r _ h n hn
theorem chk_bal : ∀ (e : List NodeD) (o : Nat), (∀ n ∈ e, alF n = 0) → (∃ (st ts : List Ex), st.length = o ∧ walkG treeF st e = .ok ts ∧ ts.length = 1) → chkO o e = 0
 | [], o, _, ⟨st, ts, h1, h2, h3⟩ => by
  cases h2
  unfold chkO
  rw [if_neg (by omega)]
 | n :: r, o, ha, ⟨st, ts, h1, h2, h3⟩ => by
  have hn := ha n (List.mem_cons_self ..)
  have hk := alF_kids hn
  rw [walkG_cons] at h2
  split at h2
  ·cases h2
  ·rename_i g
   rw [chkO_cons, if_neg (by rw [hn]; decide), if_neg (by omega)]
   refine chk_bal r _ (fun m hm => ha m (List.mem_cons_of_mem _ hm)) ⟨_, ts, ?_, h2, h3⟩
   rw [take_len _ _ _ (by omega), h1]
theorem fold_deep (t : Ex) : foldX deepF t = .ok t.depth := by
 refine Ex.rec (motive_1 := fun t => foldX deepF t = .ok t.depth) (motive_2 := fun l => ∃ vs, foldXs deepF l = .ok vs ∧ maxL vs = Ex.depths l) (fun n ks ih => ?_) ⟨[], by rw [foldXs], by rw [Ex.depths]; rfl⟩ (fun t ts h1 h2 => ?_) t
 ·obtain ⟨vs, h1, h2⟩ := ih
  rw [foldX, h1, Ex.depth, ← h2]; rfl
 ·obtain ⟨vs, h3, h4⟩ := h2
  refine ⟨t.depth :: vs, by rw [foldXs, h1, h3], ?_⟩
  rw [Ex.depths, ← h4]; rfl
theorem depthE_flat {t : Ex} (h : t.good) : depthE t.flat = t.depth := by
 unfold depthE
 rw [walkR_fold _ t h, fold_deep]
structure RightT (t : Ex) : Prop where
 good : t.good
 all : ∀ n ∈ t.flat, alF n = 0
 deep : t.depth ≤ 12
 len : t.flat.length ≤ 60
theorem right_of {e : List NodeD} (h : checkF e = 0) : ∃ t : Ex, RightT t ∧ t.flat = e := by
 unfold checkF at h
 split at h
 ·cases h
 ·rename_i h60
  split at h
  ·rename_i q; exact absurd h q
  ·rename_i q
   have q := Decidable.of_not_not q
   split at h
   ·cases h
   ·rename_i h12
    obtain ⟨x, hx⟩ := chk_walk (fun _ ks => maxL ks + 1) e [] q
    have hx : walkR deepF e = .ok x := by
     unfold walkR
     rw [show walkG deepF [] e = .ok [x] from hx]
    obtain ⟨t, h1, rfl⟩ := tree_of_walk hx
    rw [depthE_flat h1] at h12
    exact ⟨t, ⟨h1, chk_all _ _ q, by omega, by omega⟩, rfl⟩
theorem chkO_flat {t : Ex} (h : t.good) (ha : ∀ n ∈ t.flat, alF n = 0) : chkO 0 t.flat = 0 := by
 have hw := walk_fold treeF t h [] []
 rw [List.append_nil, foldX_tree] at hw
 exact chk_bal _ 0 ha ⟨[], _, rfl, hw, rfl⟩
theorem check_right {t : Ex} (h : RightT t) : checkF t.flat = 0 := by
 unfold checkF
 rw [if_neg (by have := h.len; omega), chkO_flat h.good h.all, if_neg (by decide), depthE_flat h.good, if_neg (by have := h.deep; omega)]
end Go.Proofs.YtmcmagfondjopaaDoor.Pm
end
section
namespace Go.Proofs.YtmcmagfondjopaaDoor.Pm
open Go.RowKit K
set_option linter.unusedVariables false
set_option linter.unusedSimpArgs false
abbrev wNot : List UInt8 := [110, 111, 116]
abbrev wNull : List UInt8 := [110, 117, 108, 108]
abbrev wIs : List UInt8 := [105, 115]
abbrev wLike : List UInt8 := [108, 105, 107, 101]
abbrev wIn : List UInt8 := [105, 110]
abbrev wBetw : List UInt8 := [98, 101, 116, 119, 101, 101, 110]
abbrev wAnd : List UInt8 := [97, 110, 100]
abbrev wOr : List UInt8 := [111, 114]
abbrev sLp : List UInt8 := [40]
abbrev sRp : List UInt8 := [41]
abbrev sCo : List UInt8 := [44]
abbrev sMi : List UInt8 := [45]
def isM (t : TokenD) (s : List UInt8) : Bool := decide ((t.Kind = 1 ∨ t.Kind = 5) ∧ t.S = s)
def sgn (op : Int) : List UInt8 :=
 if op = 5 then [43] else if op = 6 ∨ op = 3 then [45] else if op = 7 then [42] else if op = 8 then [47] else if op = 9 then [37] else
 if op = 10 then [61] else if op = 11 then [60, 62] else if op = 12 then [60] else if op = 13 then [60, 61] else if op = 14 then [62] else if op = 15 then [62, 61] else
 if op = 16 then wAnd else if op = 17 then wOr else if op = 4 then wNot else []
def isH (s : List UInt8) : List TokenD → Bool
 | [] => false
 | t :: _ => isM t s
def tkO (s : List UInt8) (l : List TokenD) : List TokenD := if isH s l then l.drop 1 else l
def opAt : List Int → List TokenD → Option Int
 | [], _ => none
 | o :: os, l => if isH (sgn o) l then some o else opAt os l
def nOp (op kids : Int) : NodeD := ⟨op, kids, noV, []⟩
abbrev PR := Option (List TokenD × List NodeD)
def chainR (one : List TokenD → PR) (ops : List Int) : Nat → List TokenD → PR
 | 0, l => some (l, [])
 | n + 1, l => match opAt ops l with
  | none => some (l, [])
  | some o => match one (l.drop 1) with
   | none => none
   | some (r, ns) => match chainR one ops n r with
    | none => none
    | some (r2, ms) => some (r2, ns ++ (nOp o 2 :: ms))
def chainF (one : List TokenD → PR) (ops : List Int) (l : List TokenD) : PR :=
 match one l with
 | none => none
 | some (r, ns) => match chainR one ops (r.length + 1) r with
  | none => none
  | some (r2, ms) => some (r2, ns ++ ms)
def heads (s : List UInt8) : List TokenD → Nat
 | [] => 0
 | t :: r => if isM t s then heads s r + 1 else 0
def preF (s : List UInt8) (op : Int) (one : List TokenD → PR) (l : List TokenD) : PR :=
 match one (l.drop (heads s l)) with
 | none => none
 | some (r, ns) => some (r, ns ++ List.replicate (heads s l) (nOp op 1))
def litF (t : TokenD) : Option NodeD :=
 if t.Kind = 2 then some ⟨1, 0, ⟨1, t.N, []⟩, []⟩ else if t.Kind = 3 then some ⟨1, 0, ⟨2, 0, t.S⟩, []⟩ else if t.Kind = 4 then some ⟨1, 0, ⟨3, 0, t.S⟩, []⟩ else
 if isM t wNull then some ⟨1, 0, noV, []⟩ else if t.Kind = 1 ∧ nameB t.S = true then some ⟨2, 0, noV, t.S⟩ else none
def oneF (rec : List TokenD → PR) : List TokenD → PR
 | [] => none
 | t :: r => if isM t sLp then (match rec r with
   | none => none
   | some (r2, ns) => if isH sRp r2 then some (r2.drop 1, ns) else none)
  else match litF t with
   | none => none
   | some n => some (r, [n])
abbrev negF (rec : List TokenD → PR) : List TokenD → PR := preF sMi 3 (oneF rec)
abbrev mulF (rec : List TokenD → PR) : List TokenD → PR := chainF (negF rec) [7, 8, 9]
abbrev addF (rec : List TokenD → PR) : List TokenD → PR := chainF (mulF rec) [5, 6]
def listR (rec : List TokenD → PR) : Nat → List TokenD → Option (List TokenD × List NodeD × Nat)
 | 0, l => some (l, [], 0)
 | n + 1, l => if isH sCo l then (match rec (l.drop 1) with
   | none => none
   | some (r, ns) => match listR rec n r with
    | none => none
    | some (r2, ms, k) => some (r2, ns ++ ms, k + 1))
  else some (l, [], 0)
def listF (rec : List TokenD → PR) (l : List TokenD) : Option (List TokenD × List NodeD × Nat) :=
 if isH sLp l then (match rec (l.drop 1) with
  | none => none
  | some (r, ns) => match listR rec (r.length + 1) r with
   | none => none
   | some (r2, ms, k) => if isH sRp r2 then some (r2.drop 1, ns ++ ms, k + 1) else none)
 else none
def twoF (rec : List TokenD → PR) (l : List TokenD) : PR :=
 match addF rec l with
 | none => none
 | some (r, ns) => if isH wAnd r then (match addF rec (r.drop 1) with
   | none => none
   | some (r2, ms) => some (r2, ns ++ ms))
  else none
def tailF (rec : List TokenD → PR) (k : Nat) (l : List TokenD) : PR :=
 if isH wLike l then (match addF rec (l.drop 1) with
  | none => none
  | some (r, ns) => some (r, ns ++ [nOp (20 + k) 2]))
 else if isH wIn l then (match listF rec (l.drop 1) with
  | none => none
  | some (r, ns, n) => some (r, ns ++ [nOp (22 + k) (n + 1)]))
 else if isH wBetw l then (match twoF rec (l.drop 1) with
  | none => none
  | some (r, ns) => some (r, ns ++ [nOp (24 + k) 3]))
 else if k = 1 then none else some (l, [])
def isF (l : List TokenD) : PR :=
 if isH wNot l then (if isH wNull (l.drop 1) then some (l.drop 2, [nOp 19 1]) else none)
 else if isH wNull l then some (l.drop 1, [nOp 18 1]) else none
def moreF (rec : List TokenD → PR) (l : List TokenD) : PR :=
 match opAt [10, 11, 12, 13, 14, 15] l with
 | some o => (match addF rec (l.drop 1) with
  | none => none
  | some (r, ns) => some (r, ns ++ [nOp o 2]))
 | none => if isH wIs l then isF (l.drop 1)
  else if isH wNot l then tailF rec 1 (l.drop 1) else tailF rec 0 l
def askF (rec : List TokenD → PR) (l : List TokenD) : PR :=
 match addF rec l with
 | none => none
 | some (r, ns) => match moreF rec r with
  | none => none
  | some (r2, ms) => some (r2, ns ++ ms)
abbrev notF (rec : List TokenD → PR) : List TokenD → PR := preF wNot 4 (askF rec)
abbrev andF (rec : List TokenD → PR) : List TokenD → PR := chainF (notF rec) [16]
abbrev orF (rec : List TokenD → PR) : List TokenD → PR := chainF (andF rec) [17]
def pOr : Nat → List TokenD → PR
 | 0 => fun _ => none
 | n + 1 => orF (pOr n)
def fit (b : Nat) (l : List TokenD) (x : PR) : Prop := ∀ r ns, x = some (r, ns) → ∃ k, b ≤ k ∧ k ≤ l.length ∧ r = l.drop k ∧ ns.length ≤ k
theorem isH_pos {s : List UInt8} {l : List TokenD} (h : isH s l = true) : 0 < l.length := by
 cases l with
 | nil => cases h
 | cons _ _ => simp
theorem opAt_pos {l : List TokenD} {o : Int} : ∀ {ops : List Int}, opAt ops l = some o → isH (sgn o) l = true ∧ o ∈ ops
 | [], h => by cases h
 | a :: os, h => by
  rw [opAt] at h
  split at h
  ·rename_i g; cases h; exact ⟨g, List.mem_cons_self⟩
  ·exact ⟨(opAt_pos h).1, List.mem_cons_of_mem _ (opAt_pos h).2⟩
theorem fit_at {b a : Nat} {l : List TokenD} {x : PR} (ha : a ≤ l.length) (h : fit b (l.drop a) x) {r : List TokenD} {ns : List NodeD} (e : x = some (r, ns)) : ∃ k, b + a ≤ k ∧ k ≤ l.length ∧ r = l.drop k ∧ ns.length + a ≤ k := by
 obtain ⟨k, h1, h2, h3, h4⟩ := h r ns e
 rw [List.length_drop] at h2
 refine ⟨a + k, by omega, by omega, ?_, by omega⟩
 rw [h3, List.drop_drop]
theorem fit_chainR {one : List TokenD → PR} {ops : List Int} (h1 : ∀ l, fit 1 l (one l)) : ∀ (n : Nat) (l : List TokenD), fit 0 l (chainR one ops n l)
 | 0, l => fun r ns e => by rw [chainR] at e; cases e; exact ⟨0, Nat.le_refl _, Nat.zero_le _, rfl, Nat.le_refl _⟩
 | n + 1, l => fun r ns e => by
  rw [chainR] at e
  split at e
  ·cases e; exact ⟨0, Nat.le_refl _, Nat.zero_le _, rfl, Nat.le_refl _⟩
  ·rename_i o ho
   have hp := isH_pos (opAt_pos ho).1
   split at e
   ·cases e
   ·rename_i r1 ns1 e1
    obtain ⟨k1, a1, a2, a3, a4⟩ := fit_at hp (h1 _) e1
    split at e
    ·cases e
    ·rename_i r2 ms e2
     cases e
     subst a3
     obtain ⟨k2, b1, b2, b3, b4⟩ := fit_at a2 (fit_chainR h1 n (l.drop k1)) e2
     refine ⟨k2, Nat.zero_le _, b2, b3, ?_⟩
     rw [List.length_append, List.length_cons]; omega
theorem fit_chainF {one : List TokenD → PR} {ops : List Int} (h1 : ∀ l, fit 1 l (one l)) (l : List TokenD) : fit 1 l (chainF one ops l) := fun r ns e => by
 unfold chainF at e
 split at e
 ·cases e
 ·rename_i r1 ns1 e1
  obtain ⟨k1, a1, a2, a3, a4⟩ := h1 l r1 ns1 e1
  split at e
  ·cases e
  ·rename_i r2 ms e2
   cases e
   subst a3
   obtain ⟨k2, b1, b2, b3, b4⟩ := fit_at a2 (fit_chainR h1 _ (l.drop k1)) e2
   refine ⟨k2, by omega, b2, b3, ?_⟩
   rw [List.length_append]; omega
theorem heads_le (s : List UInt8) : ∀ l : List TokenD, heads s l ≤ l.length
 | [] => Nat.le_refl _
 | t :: r => by
  have := heads_le s r
  rw [heads]
  split
  ·rw [List.length_cons]; omega
  ·omega
theorem fit_pre {one : List TokenD → PR} {s : List UInt8} {op : Int} (h1 : ∀ l, fit 1 l (one l)) (l : List TokenD) : fit 1 l (preF s op one l) := fun r ns e => by
 unfold preF at e
 split at e
 ·cases e
 ·rename_i r1 ns1 e1
  cases e
  obtain ⟨k1, a1, a2, a3, a4⟩ := fit_at (heads_le s l) (h1 _) e1
  refine ⟨k1, by omega, a2, a3, ?_⟩
  rw [List.length_append, List.length_replicate]; omega
theorem fit_one {rec : List TokenD → PR} (h : ∀ l, fit 1 l (rec l)) : ∀ l, fit 1 l (oneF rec l)
 | [] => fun r ns e => by cases e
 | t :: l => fun r ns e => by
  rw [oneF] at e
  split at e
  ·split at e
   ·cases e
   ·rename_i r2 ms e2
    obtain ⟨k, h1, h2, h3, h4⟩ := h l r2 ms e2
    split at e
    ·rename_i g
     have hp := isH_pos g
     cases e
     subst h3
     rw [List.length_drop] at hp
     refine ⟨k + 2, by omega, by rw [List.length_cons]; omega, ?_, by omega⟩
     rw [List.drop_drop]; rfl
    ·cases e
  ·split at e
   ·cases e
   ·cases e
    exact ⟨1, Nat.le_refl _, by simp, rfl, Nat.le_refl _⟩
def fitL (b : Nat) (l : List TokenD) (x : Option (List TokenD × List NodeD × Nat)) : Prop := ∀ r ns n, x = some (r, ns, n) → ∃ k, b ≤ k ∧ k ≤ l.length ∧ r = l.drop k ∧ ns.length + b ≤ k ∧ n ≤ k
theorem fit_listR {rec : List TokenD → PR} (h : ∀ l, fit 1 l (rec l)) : ∀ (n : Nat) (l : List TokenD), fitL 0 l (listR rec n l)
 | 0, l => fun r ns m e => by rw [listR] at e; cases e; exact ⟨0, Nat.le_refl _, Nat.zero_le _, rfl, Nat.le_refl _, Nat.le_refl _⟩
 | n + 1, l => fun r ns m e => by
  rw [listR] at e
  split at e
  ·rename_i g
   have hp := isH_pos g
   split at e
   ·cases e
   ·rename_i r1 ns1 e1
    obtain ⟨k1, a1, a2, a3, a4⟩ := fit_at hp (h _) e1
    split at e
    ·cases e
    ·rename_i r2 ms k e2
     cases e
     subst a3
     obtain ⟨k2, b1, b2, b3, b4, b5⟩ := fit_listR h n (l.drop k1) _ _ _ e2
     rw [List.length_drop] at b2
     refine ⟨k1 + k2, Nat.zero_le _, by omega, by rw [b3, List.drop_drop], ?_, by omega⟩
     rw [List.length_append]; omega
  ·cases e; exact ⟨0, Nat.le_refl _, Nat.zero_le _, rfl, Nat.le_refl _, Nat.le_refl _⟩
theorem fit_list {rec : List TokenD → PR} (h : ∀ l, fit 1 l (rec l)) (l : List TokenD) : fitL 2 l (listF rec l) := fun r ns m e => by
 unfold listF at e
 split at e
 ·rename_i g
  have hp := isH_pos g
  split at e
  ·cases e
  ·rename_i r1 ns1 e1
   obtain ⟨k1, a1, a2, a3, a4⟩ := fit_at hp (h _) e1
   split at e
   ·cases e
   ·rename_i r2 ms k e2
    subst a3
    obtain ⟨k2, b1, b2, b3, b4, b5⟩ := fit_listR h _ (l.drop k1) _ _ _ e2
    rw [List.length_drop] at b2
    split at e
    ·rename_i g2
     have hp2 := isH_pos g2
     cases e
     subst b3
     rw [List.length_drop, List.length_drop] at hp2
     refine ⟨k1 + k2 + 1, by omega, by omega, by rw [List.drop_drop, List.drop_drop, Nat.add_assoc], ?_, by omega⟩
     rw [List.length_append]; omega
    ·cases e
 ·cases e
theorem fit_two {rec : List TokenD → PR} (ha : ∀ l, fit 1 l (addF rec l)) (l : List TokenD) : fit 2 l (twoF rec l) := fun r ns e => by
 unfold twoF at e
 split at e
 ·cases e
 ·rename_i r1 ns1 e1
  obtain ⟨k1, a1, a2, a3, a4⟩ := ha l r1 ns1 e1
  split at e
  ·rename_i g
   have hp := isH_pos g
   split at e
   ·cases e
   ·rename_i r2 ms e2
    cases e
    subst a3
    rw [List.length_drop] at hp
    rw [List.drop_drop] at e2
    obtain ⟨k2, b1, b2, b3, b4⟩ := fit_at (by omega) (ha _) e2
    refine ⟨k2, by omega, b2, b3, ?_⟩
    rw [List.length_append]; omega
  ·cases e
theorem fit_tail {rec : List TokenD → PR} (h : ∀ l, fit 1 l (rec l)) (ha : ∀ l, fit 1 l (addF rec l)) (k : Nat) (l : List TokenD) : fit 0 l (tailF rec k l) := fun r ns e => by
 unfold tailF at e
 split at e
 ·rename_i g
  have hp := isH_pos g
  split at e
  ·cases e
  ·rename_i r1 ns1 e1
   cases e
   obtain ⟨k1, a1, a2, a3, a4⟩ := fit_at hp (ha _) e1
   refine ⟨k1, by omega, a2, a3, ?_⟩
   rw [List.length_append, List.length_singleton]; omega
 ·split at e
  ·rename_i g
   have hp := isH_pos g
   split at e
   ·cases e
   ·rename_i r1 ns1 n e1
    cases e
    obtain ⟨k1, a1, a2, a3, a4, a5⟩ := fit_list h _ _ _ _ e1
    rw [List.length_drop] at a2
    refine ⟨1 + k1, by omega, by omega, by rw [a3, List.drop_drop], ?_⟩
    rw [List.length_append, List.length_singleton]; omega
  ·split at e
   ·rename_i g
    have hp := isH_pos g
    split at e
    ·cases e
    ·rename_i r1 ns1 e1
     cases e
     obtain ⟨k1, a1, a2, a3, a4⟩ := fit_at hp (fit_two ha _) e1
     refine ⟨k1, by omega, a2, a3, ?_⟩
     rw [List.length_append, List.length_singleton]; omega
   ·split at e
    ·cases e
    ·cases e; exact ⟨0, Nat.le_refl _, Nat.zero_le _, rfl, Nat.le_refl _⟩
theorem fit_is (l : List TokenD) : fit 1 l (isF l) := fun r ns e => by
 unfold isF at e
 split at e
 ·split at e
  ·rename_i g1 g2
   have hp := isH_pos g2
   rw [List.length_drop] at hp
   cases e
   exact ⟨2, by omega, by omega, rfl, by simp⟩
  ·cases e
 ·split at e
  ·rename_i g1 g2
   have hp := isH_pos g2
   cases e
   exact ⟨1, by omega, by omega, rfl, by simp⟩
  ·cases e
theorem fit_more {rec : List TokenD → PR} (h : ∀ l, fit 1 l (rec l)) (ha : ∀ l, fit 1 l (addF rec l)) (l : List TokenD) : fit 0 l (moreF rec l) := fun r ns e => by
 unfold moreF at e
 split at e
 ·rename_i o ho
  have hp := isH_pos (opAt_pos ho).1
  split at e
  ·cases e
  ·rename_i r1 ns1 e1
   cases e
   obtain ⟨k1, a1, a2, a3, a4⟩ := fit_at hp (ha _) e1
   refine ⟨k1, by omega, a2, a3, ?_⟩
   rw [List.length_append, List.length_singleton]; omega
 ·split at e
  ·rename_i g
   obtain ⟨k1, a1, a2, a3, a4⟩ := fit_at (isH_pos g) (fit_is _) e
   exact ⟨k1, by omega, a2, a3, by omega⟩
  ·split at e
   ·rename_i g
    obtain ⟨k1, a1, a2, a3, a4⟩ := fit_at (isH_pos g) (fit_tail h ha 1 _) e
    exact ⟨k1, by omega, a2, a3, by omega⟩
   ·exact fit_tail h ha 0 l r ns e
theorem fit_ask {rec : List TokenD → PR} (h : ∀ l, fit 1 l (rec l)) (ha : ∀ l, fit 1 l (addF rec l)) (l : List TokenD) : fit 1 l (askF rec l) := fun r ns e => by
 unfold askF at e
 split at e
 ·cases e
 ·rename_i r1 ns1 e1
  obtain ⟨k1, a1, a2, a3, a4⟩ := ha l r1 ns1 e1
  split at e
  ·cases e
  ·rename_i r2 ms e2
   cases e
   subst a3
   obtain ⟨k2, b1, b2, b3, b4⟩ := fit_at a2 (fit_more h ha (l.drop k1)) e2
   refine ⟨k2, by omega, b2, b3, ?_⟩
   rw [List.length_append]; omega
theorem fit_neg {rec : List TokenD → PR} (h : ∀ l, fit 1 l (rec l)) (l : List TokenD) : fit 1 l (negF rec l) := fit_pre (fit_one h) l
theorem fit_mul {rec : List TokenD → PR} (h : ∀ l, fit 1 l (rec l)) (l : List TokenD) : fit 1 l (mulF rec l) := fit_chainF (fit_neg h) l
theorem fit_add {rec : List TokenD → PR} (h : ∀ l, fit 1 l (rec l)) (l : List TokenD) : fit 1 l (addF rec l) := fit_chainF (fit_mul h) l
theorem fit_not {rec : List TokenD → PR} (h : ∀ l, fit 1 l (rec l)) (l : List TokenD) : fit 1 l (notF rec l) := fit_pre (fit_ask h (fit_add h)) l
theorem fit_and {rec : List TokenD → PR} (h : ∀ l, fit 1 l (rec l)) (l : List TokenD) : fit 1 l (andF rec l) := fit_chainF (fit_not h) l
theorem fit_orF {rec : List TokenD → PR} (h : ∀ l, fit 1 l (rec l)) (l : List TokenD) : fit 1 l (orF rec l) := fit_chainF (fit_and h) l
theorem fit_pOr : ∀ (n : Nat) (l : List TokenD), fit 1 l (pOr n l)
 | 0, l => fun r ns e => by cases e
 | n + 1, l => fit_orF (fit_pOr n) l
theorem chainR_fuel {one : List TokenD → PR} {ops : List Int} (h1 : ∀ l, fit 1 l (one l)) : ∀ (n m : Nat) (l : List TokenD), l.length < n → l.length < m → chainR one ops n l = chainR one ops m l
 | 0, _, l, h, _ => absurd h (Nat.not_lt_zero _)
 | _ + 1, 0, l, _, h => absurd h (Nat.not_lt_zero _)
 | n + 1, m + 1, l, hn, hm => by
  rw [chainR, chainR]
  cases ho : opAt ops l with
  | none => rfl
  | some o =>
   have hp := isH_pos (opAt_pos ho).1
   cases e1 : one (l.drop 1) with
   | none => simp only [e1]
   | some x =>
    obtain ⟨r, ns⟩ := x
    obtain ⟨k1, a1, a2, a3, a4⟩ := fit_at hp (h1 _) e1
    have hl : r.length + 2 ≤ l.length := by rw [a3, List.length_drop]; omega
    simp only [e1]
    rw [chainR_fuel h1 n m r (by omega) (by omega)]
theorem listR_fuel {rec : List TokenD → PR} (h1 : ∀ l, fit 1 l (rec l)) : ∀ (n m : Nat) (l : List TokenD), l.length < n → l.length < m → listR rec n l = listR rec m l
 | 0, _, l, h, _ => absurd h (Nat.not_lt_zero _)
 | _ + 1, 0, l, _, h => absurd h (Nat.not_lt_zero _)
 | n + 1, m + 1, l, hn, hm => by
  rw [listR, listR]
  cases ho : isH sCo l with
  | false => rfl
  | true =>
   have hp := isH_pos ho
   cases e1 : rec (l.drop 1) with
   | none => simp only [e1]
   | some x =>
    obtain ⟨r, ns⟩ := x
    obtain ⟨k1, a1, a2, a3, a4⟩ := fit_at hp (h1 _) e1
    have hl : r.length + 2 ≤ l.length := by rw [a3, List.length_drop]; omega
    simp only [e1]
    rw [listR_fuel h1 n m r (by omega) (by omega)]
end Go.Proofs.YtmcmagfondjopaaDoor.Pm
end
section
namespace Go.Proofs.YtmcmagfondjopaaDoor.Pm
open Go.RowKit K
set_option linter.unusedVariables false
set_option linter.unusedSimpArgs false
set_option maxRecDepth 100000
def markT (s : List UInt8) : TokenD := if wordB s then ⟨1, 0, 0, s⟩ else ⟨5, 0, 0, s⟩
theorem p_Mark (s : List UInt8) (hs : okText s) : Pure Tryd.prog 63 [pStr (tx s)] (tV (markT s)) := by
 have pw := p_isword s hs
 unfold markT
 refine pure_of Tryd.func63 (by rfl) rfl (by kernel_rfl) (by rfl) ?_
 cases hw : wordB s with
 | true =>
  rw [hw] at pw
  ((conv => whnf); repeat' ((first | (with_reducible first | apply a_ | apply b_ | apply c_) | ((with_reducible first | apply d_ | apply e_ | apply f_ | apply g_); focus first | omega | (simp only [q_] <;> omega)) | ((with_reducible first | apply i_ | apply h_); focus first | omega | (simp only [q_] <;> omega)) | ((with_reducible apply h_); focus first | decide | kernel_rfl) | refine BCase.t (by decide) ?_ | refine BCase.f (by decide) ?_ | refine CallP.pure _ rfl _ (pw) ?_ | with_reducible first | apply l_ | apply m_ | apply n_ | apply o_ | refine p_ (fun _ => ?_) (fun _ => ?_)) <;> (conv => whnf)))
  exact Ret.eq rfl
 | false =>
  rw [hw] at pw
  ((conv => whnf); repeat' ((first | (with_reducible first | apply a_ | apply b_ | apply c_) | ((with_reducible first | apply d_ | apply e_ | apply f_ | apply g_); focus first | omega | (simp only [q_] <;> omega)) | ((with_reducible first | apply i_ | apply h_); focus first | omega | (simp only [q_] <;> omega)) | ((with_reducible apply h_); focus first | decide | kernel_rfl) | refine BCase.t (by decide) ?_ | refine BCase.f (by decide) ?_ | refine CallP.pure _ rfl _ (pw) ?_ | with_reducible first | apply l_ | apply m_ | apply n_ | apply o_ | refine p_ (fun _ => ?_) (fun _ => ?_)) <;> (conv => whnf)))
  exact Ret.eq rfl
inductive JPart where
 | tok (t : TokenD)
 | toks (l : List TokenD)
 | str (s : List UInt8)
def JPart.l : JPart → List TokenD
 | .tok t => [t]
 | .toks l => l
 | .str s => [markT s]
def JPart.ok : JPart → Prop
 | .str s => okText s
 | _ => True
abbrev tokI (t : TokenD) : Value := .iface 42 (.agg #[.int .i64 t.Kind, .int .i64 t.At, .int .i64 t.N, .string (tx t.S)])
def JPart.c : JPart → List C
 | .tok t => [.v (tokI t)]
 | .toks l => [.ifc1 23 (.sl 4 (l.map TokenD.c))]
 | .str s => [.v (.iface 9 (.string (tx s)))]
def joinF (ps : List JPart) : List TokenD := ps.flatMap JPart.l
theorem joinF_snoc {ps : List JPart} {j : Nat} (h : j < ps.length) : joinF (ps.take (j + 1)) = joinF (ps.take j) ++ (ps[j]).l := by
 unfold joinF
 rw [← List.take_append_getElem h, List.flatMap_append]
 simp
theorem joinF_le (ps : List JPart) (j : Nat) : (joinF (ps.take j)).length ≤ (joinF ps).length := by
 unfold joinF
 conv => rhs; rw [← List.take_append_drop j ps]
 rw [List.flatMap_append, List.length_append]
 omega
theorem p_join (ps : List JPart) (hk : ∀ p ∈ ps, p.ok) (hl : ps.length ≤ 100000) (hj : (joinF ps).length ≤ 100000) : Pure Tryd.prog 51 [.d (.c (.sl 1 (ps.map JPart.c)))] (slV 4 TokenD.c (joinF ps)) := by
 have hml : (ps.map JPart.c).length = ps.length := List.length_map _
 refine pure_of Tryd.func51 (by rfl) rfl (by kernel_rfl) (by rfl) ?_
 ((conv => whnf); repeat' ((first | (with_reducible first | apply a_ | apply b_ | apply c_) | ((with_reducible first | apply d_ | apply e_ | apply f_ | apply g_); focus first | omega | (simp only [q_] <;> omega)) | ((with_reducible first | apply i_ | apply h_); focus first | omega | (simp only [q_] <;> omega)) | ((with_reducible apply h_); focus first | decide | kernel_rfl) | refine BCase.t (by decide) ?_ | refine BCase.f (by decide) ?_ | with_reducible first | apply l_ | apply m_ | apply n_ | apply o_ | refine p_ (fun _ => ?_) (fun _ => ?_)) <;> (conv => whnf)))
 refine LoopC.mk Nat (fun j => [(9, .d (.c (.sl 1 (ps.map JPart.c)))), (10, pInt .i64 ps.length), (11, pInt .i64 j), (3, .d (.app 60 42 4 ((joinF (ps.take j)).map TokenD.c)))]) (fun j => [(60, .tail 42 4)]) [60] (fun j => j ≤ ps.length) (fun j => ps.length - j) 0 (Nat.zero_le _) ?start ?round
 case start => exact ⟨[], rfl, rfl, ⟨.inl rfl, PLe.int (by rw [hml]), .inl rfl, ⟨rfl, rfl, Nat.zero_lt_succ _, rfl, rfl⟩, trivial⟩, ⟨rfl, Nat.zero_lt_succ _⟩, trivial⟩
 case round =>
  intro j hj'
  have hj' : j ≤ ps.length := hj'
  by_cases q : j < ps.length
  ·have e1 := joinF_snoc q
   have e2 := joinF_le ps (j + 1)
   have e3 := congrArg List.length e1
   rw [List.length_append] at e3
   have hlm : ((joinF (ps.take j)).map TokenD.c).length = (joinF (ps.take j)).length := List.length_map _
   have hok := hk _ (List.getElem_mem q)
   have hget : ps[j]? = some ps[j] := List.getElem?_eq_getElem q
   obtain ⟨p, hp⟩ : ∃ p, p = ps[j] := ⟨_, rfl⟩
   rw [← hp] at e1 e3 hok hget
   cases p with
   | tok t =>
    have e3 : (joinF (ps.take (j + 1))).length = (joinF (ps.take j)).length + 1 := e3
    ((conv => whnf); repeat' ((first | (with_reducible first | apply a_ | apply b_ | apply c_) | ((with_reducible first | apply d_ | apply e_ | apply f_ | apply g_); focus first | omega | (simp only [q_] <;> omega)) | ((with_reducible first | apply i_ | apply h_); focus first | omega | (simp only [q_] <;> omega)) | ((with_reducible apply h_); focus first | decide | kernel_rfl) | refine BCase.t (by decide) ?_ | refine BCase.f (by decide) ?_ | (refine Idx.mapV (f := JPart.c) j rfl _ hget ?_) | (refine Need.by 40 rfl (by rw [hlm]; show ((joinF (ps.take j)).length + 1) * 40 ≤ _; omega) ?_) | with_reducible first | apply l_ | apply m_ | apply n_ | apply o_ | refine p_ (fun _ => ?_) (fun _ => ?_)) <;> (conv => whnf)))
    have e4 : (joinF (ps.take (j + 1))).map TokenD.c = (joinF (ps.take j)).map TokenD.c ++ [t.c] := by rw [e1, List.map_append]; rfl
    refine ⟨j + 1, q, by show _ < _; omega, [(60, 22)], rfl, rfl, ?_, ?_⟩
    ·refine ⟨.inl rfl, .inl rfl, PLe.int (by omega), ?_, trivial⟩
     rw [e4]
     (repeat' (first | exact rfl | exact trivial | exact Or.inl rfl | refine And.intro ?_ ?_))
    ·(repeat' (first | exact rfl | exact trivial | exact Or.inl rfl | refine And.intro ?_ ?_))
   | toks l =>
    have e3 : (joinF (ps.take (j + 1))).length = (joinF (ps.take j)).length + l.length := e3
    have hll : (l.map TokenD.c).length = l.length := List.length_map _
    ((conv => whnf); repeat' ((first | (with_reducible first | apply a_ | apply b_ | apply c_) | ((with_reducible first | apply d_ | apply e_ | apply f_ | apply g_); focus first | omega | (simp only [q_] <;> omega)) | ((with_reducible first | apply i_ | apply h_); focus first | omega | (simp only [q_] <;> omega)) | ((with_reducible apply h_); focus first | decide | kernel_rfl) | refine BCase.t (by decide) ?_ | refine BCase.f (by decide) ?_ | (refine Idx.mapV (f := JPart.c) j rfl _ hget ?_) | (refine Need.by 40 rfl (by rw [hlm, hll]; omega) ?_) | with_reducible first | apply l_ | apply m_ | apply n_ | apply o_ | refine p_ (fun _ => ?_) (fun _ => ?_)) <;> (conv => whnf)))
    have e4 : (joinF (ps.take (j + 1))).map TokenD.c = (joinF (ps.take j)).map TokenD.c ++ l.map TokenD.c := by rw [e1, List.map_append]; rfl
    refine ⟨j + 1, q, by show _ < _; omega, [(60, 28)], rfl, rfl, ?_, ?_⟩
    ·refine ⟨.inl rfl, .inl rfl, PLe.int (by omega), ?_, trivial⟩
     rw [e4]
     (repeat' (first | exact rfl | exact trivial | exact Or.inl rfl | refine And.intro ?_ ?_))
    ·(repeat' (first | exact rfl | exact trivial | exact Or.inl rfl | refine And.intro ?_ ?_))
   | str s =>
    have e3 : (joinF (ps.take (j + 1))).length = (joinF (ps.take j)).length + 1 := e3
    have pm := p_Mark s hok
    ((conv => whnf); repeat' ((first | (with_reducible first | apply a_ | apply b_ | apply c_) | ((with_reducible first | apply d_ | apply e_ | apply f_ | apply g_); focus first | omega | (simp only [q_] <;> omega)) | ((with_reducible first | apply i_ | apply h_); focus first | omega | (simp only [q_] <;> omega)) | ((with_reducible apply h_); focus first | decide | kernel_rfl) | refine BCase.t (by decide) ?_ | refine BCase.f (by decide) ?_ | (refine Idx.mapV (f := JPart.c) j rfl _ hget ?_) | (refine Need.by 40 rfl (by rw [hlm]; show ((joinF (ps.take j)).length + 1) * 40 ≤ _; omega) ?_) | refine CallP.pure _ rfl _ (pm) ?_ | with_reducible first | apply l_ | apply m_ | apply n_ | apply o_ | refine p_ (fun _ => ?_) (fun _ => ?_)) <;> (conv => whnf)))
    have e4 : (joinF (ps.take (j + 1))).map TokenD.c = (joinF (ps.take j)).map TokenD.c ++ [(markT s).c] := by rw [e1, List.map_append]; rfl
    refine ⟨j + 1, q, by show _ < _; omega, [(60, 36)], rfl, rfl, ?_, ?_⟩
    ·refine ⟨.inl rfl, .inl rfl, PLe.int (by omega), ?_, trivial⟩
     rw [e4]
     (repeat' (first | exact rfl | exact trivial | exact Or.inl rfl | refine And.intro ?_ ?_))
    ·(repeat' (first | exact rfl | exact trivial | exact Or.inl rfl | refine And.intro ?_ ?_))
  ·have e0 : j = ps.length := by omega
   subst e0
   rw [List.take_length]
   ((conv => whnf); repeat' ((first | (with_reducible first | apply a_ | apply b_ | apply c_) | ((with_reducible first | apply d_ | apply e_ | apply f_ | apply g_); focus first | omega | (simp only [q_] <;> omega)) | ((with_reducible first | apply i_ | apply h_); focus first | omega | (simp only [q_] <;> omega)) | ((with_reducible apply h_); focus first | decide | kernel_rfl) | refine BCase.t (by decide) ?_ | refine BCase.f (by decide) ?_ | with_reducible first | apply l_ | apply m_ | apply n_ | apply o_ | refine p_ (fun _ => ?_) (fun _ => ?_)) <;> (conv => whnf)))
   exact Ret.eq rfl
end Go.Proofs.YtmcmagfondjopaaDoor.Pm
end
section
namespace Go.Proofs.YtmcmagfondjopaaDoor.Pm
open Go.RowKit
set_option linter.unusedVariables false
set_option linter.unusedSimpArgs false
abbrev nilSl : D := .c (.v (.slice none 0 0))
theorem hpL_one {K : Nat} {b : HB} {j : Nat} {x : HB} (h : hpL [(K, b)] j = some x) : j = K ∧ x = b := by
 unfold hpL at h
 cases hq : Nat.beq j K with
 | true => rw [hq, cond_true] at h; cases h; exact ⟨Nat.eq_of_beq_eq_true hq, rfl⟩
 | false => rw [hq, cond_false] at h; cases h
theorem hpL_two {K K' : Nat} {b b' : HB} {j : Nat} {x : HB} (h : hpL [(K, b), (K', b')] j = some x) : (j = K ∧ x = b) ∨ (j = K' ∧ x = b') := by
 unfold hpL at h
 cases hq : Nat.beq j K with
 | true => rw [hq, cond_true] at h; cases h; exact .inl ⟨Nat.eq_of_beq_eq_true hq, rfl⟩
 | false => rw [hq, cond_false] at h; exact .inr (hpL_one h)
theorem CallS.nil_arr {P : Program} {f : FuncId} {args : List PV} {K K' T e sz : Nat} {l : List D} {out : Rf} {res : PV} (hz : 0 < sz) (hne : K ≠ K')
  (h1 : CallS P f args [] [(K, .box T (.arr K' e sz 0 0 :: l)), (K', .arr e sz [])] res out) :
  CallS P f args [] [(K, .box T (nilSl :: l))] res out := by
 refine ⟨h1.1, fun c vs hc hdf hf hs ha => ?_⟩
 simp only [List.nil_append] at hs ha hf
 have hn : c.σ0 K' = none := hf K' (by simp only [List.map_cons, List.map_nil, List.mem_singleton]; exact fun x => hne x.symm)
 have hK : hpL [(K, HB.box T (nilSl :: l))] K = some (.box T (nilSl :: l)) := by unfold hpL; simp
 obtain ⟨g, n, cs, e1, e2, e3, e4⟩ := hs.hp K _ hK
 obtain ⟨σ', hσ'⟩ : ∃ σ', σ' = upd c.σ0 K' (some ((none : Option Nat), 0)) := ⟨_, rfl⟩
 have hsg : ∀ k x, c.σ0 k = some x → σ' k = some x := by
  intro k x hx
  rw [hσ', upd_ne]
  ·exact hx
  ·rintro rfl; rw [hn] at hx; cases hx
 have hsK : σ' K = c.σ0 K := by rw [hσ', upd_ne _ _ hne]
 have hsK' : σ' K' = some (none, 0) := by rw [hσ', upd_same]
 let c' : Ctx := { c with σ0 := σ' }
 have hc' : c'.Ok := ⟨hc.fz, hc.gl, hc.gb⟩
 obtain ⟨H, hH⟩ : ∃ H, H = hpL [(K, HB.box T (.arr K' e sz 0 0 :: l)), (K', HB.arr e sz [])] := ⟨_, rfl⟩
 have hHK : H K = some (.box T (.arr K' e sz 0 0 :: l)) := by rw [hH]; unfold hpL; simp
 have hHK' : H K' = some (.arr e sz []) := by
  rw [hH]
  have : Nat.beq K' K = false := by rw [Bool.eq_false_iff]; intro x; exact hne (Nat.eq_of_beq_eq_true x).symm
  unfold hpL
  rw [this, cond_false]
  unfold hpL; simp
 have hfz : ∀ S b o, Fz c c.σ0 (hpL [(K, HB.box T (nilSl :: l))]) S b o ↔ Fz c' σ' H S b o := by
  intro S b o
  constructor
  ·rintro (q | ⟨q1, q2, q3⟩)
   ·exact .inl q
   ·refine .inr ⟨q1, q2, fun k m hb hk hσ => ?_⟩
    rw [hH] at hk
    rcases hpL_two hk with ⟨rfl, rfl⟩ | ⟨rfl, rfl⟩
    ·exact (q3 k m _ hK (by rw [← hsK]; exact hσ)).elim
    ·rw [hsK'] at hσ; cases hσ
  ·rintro (q | ⟨q1, q2, q3⟩)
   ·exact .inl q
   ·refine .inr ⟨q1, q2, fun k m hb hk hσ => ?_⟩
    obtain ⟨rfl, rfl⟩ := hpL_one hk
    exact (q3 k m _ hHK (by rw [hsK]; exact hσ)).elim
 have hke : Keeps (fz c c.σ0 (hpL [(K, HB.box T (nilSl :: l))]) c.w0) (fz c' σ' H c.w0) c.w0 c.w0 := ⟨fun b o q => (hfz _ b o).1 q, fun _ _ _ => rfl⟩
 have hev : Evo c.σ0 σ' (fz c c.σ0 (hpL [(K, HB.box T (nilSl :: l))]) c.w0) (fz c' σ' H c.w0) c.w0 c.w0 := ⟨hsg, hke, Shape.refl _⟩
 have hbox : HbOk σ' (fz c' σ' H c.w0) c.w0 c'.own K (.box T (.arr K' e sz 0 0 :: l)) := by
  refine ⟨g, n, cs, by rw [hsK]; exact e1, e2, e3, ?_⟩
  cases hcs : cs.toList with
  | nil => rw [hcs] at e4; unfold DsRep at e4; exact e4.elim
  | cons u us =>
   rw [hcs] at e4
   unfold DsRep at e4 ⊢
   obtain ⟨e4, e5⟩ := e4
   refine ⟨?_, DsRep.evo hev l us e5⟩
   unfold DRep CRep at e4
   unfold DRep
   exact ⟨hz, .inl ⟨0, hsK', rfl, none, e4.1⟩⟩
 have hsw : SW c' c'.σ0 H c'.w0 := by
  refine ⟨hs.os, hs.tape, hs.output, hs.size, hs.block, fun k hb hk => ?_, fun k k' g n n' q1 q2 q3 q4 => ?_, ⟨fun b o q => (hfz _ b o).1 (hs.kept.le b o q), hs.kept.cell⟩, hs.shape, fun k x q => q⟩
  ·rw [hH] at hk
   rcases hpL_two hk with ⟨rfl, rfl⟩ | ⟨rfl, rfl⟩
   ·exact hbox
   ·refine ⟨hz, (fun r hr => absurd hr (List.not_mem_nil)), none, 0, hsK', rfl⟩
  ·have one : ∀ k g n, H k ≠ none → σ' k = some (some g, n) → k = K := by
    intro k g n q r
    cases hx : H k with
    | none => exact absurd hx q
    | some x =>
     rw [hH] at hx
     rcases hpL_two hx with ⟨rfl, _⟩ | ⟨rfl, _⟩
     ·rfl
     ·rw [hsK'] at r; cases r
   rw [one k g n q1 q3, one k' g n' q2 q4]
 have hk' : ∀ k, k ∉ (([] : Rf) ++ [(K, HB.box T (.arr K' e sz 0 0 :: l)), (K', HB.arr e sz [])]).map Prod.fst → c'.σ0 k = none := by
  intro k hk
  simp only [List.nil_append, List.map_cons, List.map_nil, List.mem_cons, List.not_mem_nil, or_false, not_or] at hk
  show σ' k = none
  rw [hσ', upd_ne _ _ hk.2]
  exact hf k (by simp only [List.map_cons, List.map_nil, List.mem_singleton]; exact hk.1)
 have := h1.2 c' vs hc' hdf hk' (by rw [List.nil_append, ← hH]; exact hsw) (by rw [List.nil_append, ← hH]; exact PsRep.evo hev _ _ ha)
 refine this.mono ?_
 rintro en w' ⟨v, τ, rfl, q1, q2⟩
 exact ⟨v, τ, rfl, ⟨q1.os, q1.tape, q1.output, q1.size, q1.block, q1.hp, q1.inj, q1.kept, q1.shape, fun k x q => q1.sg0 k x (hsg k x q)⟩, q2⟩
end Go.Proofs.YtmcmagfondjopaaDoor.Pm
end
section
namespace Go.Proofs.YtmcmagfondjopaaDoor.Pm
open Go.RowKit K
set_option linter.unusedVariables false
set_option linter.unusedSimpArgs false
set_option maxRecDepth 100000
abbrev tParser : Nat := 92
abbrev tNodeT : Nat := 37
abbrev pBx (A : Nat) (l : List TokenD) (n : Nat) : HB := .box tParser [.c (.sl 4 (l.map TokenD.c)), .arr A tNodeT 6 0 n]
abbrev pAr (out : List NodeD) : HB := .arr tNodeT 6 (out.map NodeD.c)
abbrev pb (K A : Nat) (l : List TokenD) (out : List NodeD) : Rf := [(K, pBx A l out.length), (A, pAr out)]
abbrev wrongV : Value := .iface 89 (.agg #[])
theorem cells_drop {α : Type} (f : α → List C) (l : List α) (k : Nat) {n : Int} (hn : n = (((l.map f).length : Nat) : Int)) {z : Int} (hz : z = (k : Int)) : List.take (n.toNat - z.toNat) (List.drop z.toNat (l.map f)) = (l.drop k).map f := by
 subst hn hz
 rw [Int.toNat_natCast, Int.toNat_natCast, ← List.map_drop, List.take_of_length_le]
 rw [List.length_map, List.length_map, List.length_drop]
 exact Nat.le_refl _
theorem p_sign (op : Int) : Pure Tryd.prog 53 [pInt .i64 op] (pStr (tx (sgn op))) := by
 refine pure_of Tryd.func53 (by rfl) rfl (by kernel_rfl) (by rfl) ?_
 by_cases h : 3 ≤ op ∧ op ≤ 17
 ·have : op = 3 ∨ op = 4 ∨ op = 5 ∨ op = 6 ∨ op = 7 ∨ op = 8 ∨ op = 9 ∨ op = 10 ∨ op = 11 ∨ op = 12 ∨ op = 13 ∨ op = 14 ∨ op = 15 ∨ op = 16 ∨ op = 17 := by omega
  rcases this with rfl | rfl | rfl | rfl | rfl | rfl | rfl | rfl | rfl | rfl | rfl | rfl | rfl | rfl | rfl
  all_goals
   ((conv => whnf); repeat' ((first | (with_reducible first | apply a_ | apply b_ | apply c_) | ((with_reducible first | apply d_ | apply e_ | apply f_ | apply g_); focus first | omega | (simp only [q_] <;> omega)) | ((with_reducible first | apply i_ | apply h_); focus first | omega | (simp only [q_] <;> omega)) | ((with_reducible apply h_); focus first | decide | kernel_rfl) | refine BCase.t (by decide) ?_ | refine BCase.f (by decide) ?_ | with_reducible first | apply l_ | apply m_ | apply n_ | apply o_ | refine p_ (fun _ => ?_) (fun _ => ?_)) <;> (conv => whnf)))
   exact Ret.mk rfl
 ·have e : sgn op = [] := by
   unfold sgn
   rw [if_neg (by omega), if_neg (by omega), if_neg (by omega), if_neg (by omega), if_neg (by omega), if_neg (by omega), if_neg (by omega), if_neg (by omega), if_neg (by omega), if_neg (by omega), if_neg (by omega), if_neg (by omega), if_neg (by omega), if_neg (by omega)]
  rw [e]
  ((conv => whnf); repeat' ((first | (with_reducible first | apply a_ | apply b_ | apply c_) | ((with_reducible first | apply d_ | apply e_ | apply f_ | apply g_); focus first | omega | (simp only [q_] <;> omega)) | ((with_reducible first | apply i_ | apply h_); focus first | omega | (simp only [q_] <;> omega)) | ((with_reducible apply h_); focus first | decide | kernel_rfl) | refine BCase.t (by decide) ?_ | refine BCase.f (by decide) ?_ | with_reducible first | apply l_ | apply m_ | apply n_ | apply o_ | refine p_ (fun _ => ?_) (fun _ => ?_)) <;> (conv => whnf)))
  all_goals first | exact Ret.mk rfl | (exfalso; omega)
theorem s_is (s : List UInt8) (l : List TokenD) (hl : l.length ≤ 100000) (out : List NodeD) : CallS Tryd.prog 85 [.d (.ptr FK 0), pStr (tx s)] (pb FK FK1 l out) [] (pBool (isH s l)) [] := by
 refine callS_of Tryd.func85 (by rfl) rfl (by kernel_rfl) (by rfl) [FK, FK1] rfl ?_
 cases l with
 | nil =>
  ((conv => whnf); repeat' ((first | (with_reducible first | apply a_ | apply b_ | apply c_) | ((with_reducible first | apply d_ | apply e_ | apply f_ | apply g_); focus first | omega | (simp only [q_] <;> omega)) | ((with_reducible first | apply i_ | apply h_); focus first | omega | (simp only [q_] <;> omega)) | ((with_reducible apply h_); focus first | decide | kernel_rfl) | refine BCase.t (by decide) ?_ | refine BCase.f (by decide) ?_ | with_reducible first | apply l_ | apply m_ | apply n_ | apply o_ | refine p_ (fun _ => ?_) (fun _ => ?_)) <;> (conv => whnf)))
  exact RetS.mk [(FK, FK), (FK1, FK1)] [FK, FK1] rfl rfl (.inl rfl) ⟨⟨rfl, rfl, .inl rfl, ⟨rfl, rfl, rfl, rfl, rfl, rfl⟩, rfl⟩, ⟨rfl, rfl, rfl, rfl⟩, trivial⟩
 | cons t r =>
  have hn : ((t :: r).map TokenD.c).length = r.length + 1 := by rw [List.length_map, List.length_cons]
  have e : isH s (t :: r) = decide ((t.Kind = 1 ∨ t.Kind = 5) ∧ t.S = s) := rfl
  rw [e]
  by_cases hk : t.Kind = 1 ∨ t.Kind = 5
  ·by_cases hs : t.S = s
   ·have hx : tx t.S = tx s := congrArg tx hs
    have hd : decide (tx t.S = tx s) = true := decide_eq_true hx
    rw [decide_eq_true (show _ ∧ _ from ⟨hk, hs⟩)]
    ((conv => whnf); repeat' ((first | (with_reducible first | apply a_ | apply b_ | apply c_) | ((with_reducible first | apply d_ | apply e_ | apply f_ | apply g_); focus first | omega | (simp only [q_] <;> omega)) | ((with_reducible first | apply i_ | apply h_); focus first | omega | (simp only [q_] <;> omega)) | ((with_reducible apply h_); focus first | decide | kernel_rfl) | refine BCase.t (by decide) ?_ | refine BCase.f (by decide) ?_ | (refine Idx.mapV (f := TokenD.c) 0 rfl t rfl ?_) | (refine BCase.dt hx ?_) | with_reducible first | apply l_ | apply m_ | apply n_ | apply o_ | refine p_ (fun _ => ?_) (fun _ => ?_)) <;> (conv => whnf)))
    all_goals first | exact RetS.mk [(FK, FK), (FK1, FK1)] [FK, FK1] rfl rfl (.inl rfl) ⟨⟨rfl, rfl, .inl rfl, ⟨rfl, rfl, rfl, rfl, rfl, rfl⟩, rfl⟩, ⟨rfl, rfl, rfl, rfl⟩, trivial⟩ | exact RetS.mk [(FK, FK), (FK1, FK1)] [FK, FK1] rfl rfl (PLe.bool hd) ⟨⟨rfl, rfl, .inl rfl, ⟨rfl, rfl, rfl, rfl, rfl, rfl⟩, rfl⟩, ⟨rfl, rfl, rfl, rfl⟩, trivial⟩ | (exfalso; omega)
   ·have hx : ¬ tx t.S = tx s := fun x => hs (tx_inj x)
    have hd : decide (tx t.S = tx s) = false := decide_eq_false hx
    rw [decide_eq_false (show ¬ (_ ∧ _) from fun x => hs x.2)]
    ((conv => whnf); repeat' ((first | (with_reducible first | apply a_ | apply b_ | apply c_) | ((with_reducible first | apply d_ | apply e_ | apply f_ | apply g_); focus first | omega | (simp only [q_] <;> omega)) | ((with_reducible first | apply i_ | apply h_); focus first | omega | (simp only [q_] <;> omega)) | ((with_reducible apply h_); focus first | decide | kernel_rfl) | refine BCase.t (by decide) ?_ | refine BCase.f (by decide) ?_ | (refine Idx.mapV (f := TokenD.c) 0 rfl t rfl ?_) | (refine BCase.df hx ?_) | with_reducible first | apply l_ | apply m_ | apply n_ | apply o_ | refine p_ (fun _ => ?_) (fun _ => ?_)) <;> (conv => whnf)))
    all_goals first | exact RetS.mk [(FK, FK), (FK1, FK1)] [FK, FK1] rfl rfl (.inl rfl) ⟨⟨rfl, rfl, .inl rfl, ⟨rfl, rfl, rfl, rfl, rfl, rfl⟩, rfl⟩, ⟨rfl, rfl, rfl, rfl⟩, trivial⟩ | exact RetS.mk [(FK, FK), (FK1, FK1)] [FK, FK1] rfl rfl (PLe.bool hd) ⟨⟨rfl, rfl, .inl rfl, ⟨rfl, rfl, rfl, rfl, rfl, rfl⟩, rfl⟩, ⟨rfl, rfl, rfl, rfl⟩, trivial⟩ | (exfalso; omega)
  ·rw [decide_eq_false (show ¬ (_ ∧ _) from fun x => hk x.1)]
   ((conv => whnf); repeat' ((first | (with_reducible first | apply a_ | apply b_ | apply c_) | ((with_reducible first | apply d_ | apply e_ | apply f_ | apply g_); focus first | omega | (simp only [q_] <;> omega)) | ((with_reducible first | apply i_ | apply h_); focus first | omega | (simp only [q_] <;> omega)) | ((with_reducible apply h_); focus first | decide | kernel_rfl) | refine BCase.t (by decide) ?_ | refine BCase.f (by decide) ?_ | (refine Idx.mapV (f := TokenD.c) 0 rfl t rfl ?_) | with_reducible first | apply l_ | apply m_ | apply n_ | apply o_ | refine p_ (fun _ => ?_) (fun _ => ?_)) <;> (conv => whnf)))
   all_goals first | exact RetS.mk [(FK, FK), (FK1, FK1)] [FK, FK1] rfl rfl (.inl rfl) ⟨⟨rfl, rfl, .inl rfl, ⟨rfl, rfl, rfl, rfl, rfl, rfl⟩, rfl⟩, ⟨rfl, rfl, rfl, rfl⟩, trivial⟩ | (exfalso; omega)
theorem s_take (s : List UInt8) (l : List TokenD) (hl : l.length ≤ 100000) (out : List NodeD) : CallS Tryd.prog 80 [.d (.ptr FK 0), pStr (tx s)] [(FK1, pAr out)] [(FK, pBx FK1 l out.length)] (pBool (isH s l)) [(FK, pBx FK1 (tkO s l) out.length)] := by
 have ps := s_is s l hl out
 refine callS_of Tryd.func80 (by rfl) rfl (by kernel_rfl) (by rfl) [FK1, FK] rfl ?_
 have hml : (l.map TokenD.c).length = l.length := List.length_map _
 cases h : isH s l with
 | false =>
  rw [h] at ps
  have e : tkO s l = l := by unfold tkO; rw [h]; rfl
  rw [e]
  ((conv => whnf); repeat' ((first | (with_reducible first | apply a_ | apply b_ | apply c_) | ((with_reducible first | apply d_ | apply e_ | apply f_ | apply g_); focus first | omega | (simp only [q_] <;> omega)) | ((with_reducible first | apply i_ | apply h_); focus first | omega | (simp only [q_] <;> omega)) | ((with_reducible apply h_); focus first | decide | kernel_rfl) | refine BCase.t (by decide) ?_ | refine BCase.f (by decide) ?_ | (refine CallP.ret [(FK, FK), (FK1, FK1)] _ _ _ _ _ _ _ ps rfl rfl rfl rfl ⟨rfl, rfl, trivial⟩ ?_) | with_reducible first | apply l_ | apply m_ | apply n_ | apply o_ | refine p_ (fun _ => ?_) (fun _ => ?_)) <;> (conv => whnf)))
  exact RetS.mk [(FK, FK), (FK1, FK1)] [FK1, FK] rfl rfl (.inl rfl) ⟨⟨rfl, rfl, rfl, rfl⟩, ⟨rfl, rfl, .inl rfl, ⟨rfl, rfl, rfl, rfl, rfl, rfl⟩, rfl⟩, trivial⟩
 | true =>
  rw [h] at ps
  have hp := isH_pos h
  have e : tkO s l = l.drop 1 := by unfold tkO; rw [h]; rfl
  rw [e]
  ((conv => whnf); repeat' ((first | (with_reducible first | apply a_ | apply b_ | apply c_) | ((with_reducible first | apply d_ | apply e_ | apply f_ | apply g_); focus first | omega | (simp only [q_] <;> omega)) | ((with_reducible first | apply i_ | apply h_); focus first | omega | (simp only [q_] <;> omega)) | ((with_reducible apply h_); focus first | decide | kernel_rfl) | refine BCase.t (by decide) ?_ | refine BCase.f (by decide) ?_ | (refine CallP.ret [(FK, FK), (FK1, FK1)] _ _ _ _ _ _ _ ps rfl rfl rfl rfl ⟨rfl, rfl, trivial⟩ ?_) | with_reducible first | apply l_ | apply m_ | apply n_ | apply o_ | refine p_ (fun _ => ?_) (fun _ => ?_)) <;> (conv => whnf)))
  exact RetS.mk [(FK, FK), (FK1, FK1)] [FK1, FK] rfl rfl (.inl rfl) ⟨⟨rfl, rfl, rfl, rfl⟩, ⟨rfl, rfl, .inl (congrArg (C.sl 4) (cells_drop TokenD.c l 1 rfl (z := 1) rfl)), ⟨rfl, rfl, rfl, rfl, rfl, rfl⟩, rfl⟩, trivial⟩
theorem s_must (s : List UInt8) (l : List TokenD) (hl : l.length ≤ 100000) (out : List NodeD) (h : isH s l = true) : CallS Tryd.prog 89 [.d (.ptr FK 0), pStr (tx s)] [(FK1, pAr out)] [(FK, pBx FK1 l out.length)] (.tup []) [(FK, pBx FK1 (l.drop 1) out.length)] := by
 have ps := s_take s l hl out
 rw [h] at ps
 have e : tkO s l = l.drop 1 := by unfold tkO; rw [h]; rfl
 rw [e] at ps
 refine callS_of Tryd.func89 (by rfl) rfl (by kernel_rfl) (by rfl) [FK1, FK] rfl ?_
 ((conv => whnf); repeat' ((first | (with_reducible first | apply a_ | apply b_ | apply c_) | ((with_reducible first | apply d_ | apply e_ | apply f_ | apply g_); focus first | omega | (simp only [q_] <;> omega)) | ((with_reducible first | apply i_ | apply h_); focus first | omega | (simp only [q_] <;> omega)) | ((with_reducible apply h_); focus first | decide | kernel_rfl) | refine BCase.t (by decide) ?_ | refine BCase.f (by decide) ?_ | (refine CallP.ret [(FK, FK), (FK1, FK1)] _ _ _ _ _ _ _ ps rfl rfl rfl rfl ⟨rfl, rfl, trivial⟩ ?_) | with_reducible first | apply l_ | apply m_ | apply n_ | apply o_ | refine p_ (fun _ => ?_) (fun _ => ?_)) <;> (conv => whnf)))
 exact RetS.mk [(FK, FK), (FK1, FK1)] [FK1, FK] rfl rfl rfl ⟨⟨rfl, rfl, rfl, rfl⟩, ⟨rfl, rfl, .inl rfl, ⟨rfl, rfl, rfl, rfl, rfl, rfl⟩, rfl⟩, trivial⟩
theorem x_must (s : List UInt8) (l : List TokenD) (hl : l.length ≤ 100000) (out : List NodeD) (h : isH s l = false) : CallX Tryd.prog 89 [.d (.ptr FK 0), pStr (tx s)] (pb FK FK1 l out) wrongV := by
 have ps := s_take s l hl out
 rw [h] at ps
 refine callX_of Tryd.func89 (by rfl) rfl (by kernel_rfl) (by rfl) [FK, FK1] rfl ?_
 ((conv => whnf); repeat' ((first | (with_reducible first | apply a_ | apply b_ | apply c_) | ((with_reducible first | apply d_ | apply e_ | apply f_ | apply g_); focus first | omega | (simp only [q_] <;> omega)) | ((with_reducible first | apply i_ | apply h_); focus first | omega | (simp only [q_] <;> omega)) | ((with_reducible apply h_); focus first | decide | kernel_rfl) | refine BCase.t (by decide) ?_ | refine BCase.f (by decide) ?_ | (refine CallP.ret [(FK, FK), (FK1, FK1)] _ _ _ _ _ _ _ ps rfl rfl rfl rfl ⟨rfl, rfl, trivial⟩ ?_) | with_reducible first | apply l_ | apply m_ | apply n_ | apply o_ | refine p_ (fun _ => ?_) (fun _ => ?_)) <;> (conv => whnf)))
theorem s_put (op kids : Int) (l : List TokenD) (out : List NodeD) (ho : out.length ≤ 100000) : CallS Tryd.prog 81 [.d (.ptr FK 0), pInt .i64 op, pInt .i64 kids] [] (pb FK FK1 l out) (.tup []) (pb FK NK l (out ++ [nOp op kids])) := by
 have hml : (out.map NodeD.c).length = out.length := List.length_map _
 refine callS_of Tryd.func81 (by rfl) rfl (by kernel_rfl) (by rfl) [FK, FK1] rfl ?_
 ((conv => whnf); repeat' ((first | (with_reducible first | apply a_ | apply b_ | apply c_) | ((with_reducible first | apply d_ | apply e_ | apply f_ | apply g_); focus first | omega | (simp only [q_] <;> omega)) | ((with_reducible first | apply i_ | apply h_); focus first | omega | (simp only [q_] <;> omega)) | ((with_reducible apply h_); focus first | decide | kernel_rfl) | refine BCase.t (by decide) ?_ | refine BCase.f (by decide) ?_ | (refine Need.by 64 rfl (by show (out.length + 1) * 64 ≤ _; omega) ?_) | with_reducible first | apply l_ | apply m_ | apply n_ | apply o_ | refine p_ (fun _ => ?_) (fun _ => ?_)) <;> (conv => whnf)))
 refine RetS.mk [(FK, FK), (FK1, FK1), (NK, 15)] [FK, FK1, NK] rfl rfl rfl ⟨⟨rfl, rfl, .inl rfl, ⟨rfl, rfl, rfl, rfl, rfl, ?_⟩, rfl⟩, ⟨rfl, rfl, rfl, ?_⟩, trivial⟩
 ·show _ = _
  rw [List.length_append]; rfl
 ·rw [List.take_of_length_le (by rw [hml]; exact Nat.le_refl _), List.map_append]; rfl
end Go.Proofs.YtmcmagfondjopaaDoor.Pm
end
section
namespace Go.Proofs.YtmcmagfondjopaaDoor.Pm
open Go.RowKit K
set_option linter.unusedVariables false
set_option linter.unusedSimpArgs false
set_option maxRecDepth 100000
abbrev Prd := List TokenD × Int
def prC (p : Prd) : List C := [.sl 4 (p.1.map TokenD.c), .v (.int .i64 p.2)]
abbrev prV (p : Prd) : PV := .agg ((prC p).map D.c)
def lvlF (op : Int) : Int :=
 if op = 17 then 1 else if op = 16 then 2 else if op = 4 then 3 else if op = 5 ∨ op = 6 then 5 else if op = 7 ∨ op = 8 ∨ op = 9 then 6 else if op = 3 then 7 else if op = 1 ∨ op = 2 then 8 else 4
theorem p_level (op : Int) : Pure Tryd.prog 50 [pInt .i64 op] (pInt .i64 (lvlF op)) := by
 refine pure_of Tryd.func50 (by rfl) rfl (by kernel_rfl) (by rfl) ?_
 by_cases h : (1 ≤ op ∧ op ≤ 9) ∨ op = 16 ∨ op = 17
 ·have : op = 1 ∨ op = 2 ∨ op = 3 ∨ op = 4 ∨ op = 5 ∨ op = 6 ∨ op = 7 ∨ op = 8 ∨ op = 9 ∨ op = 16 ∨ op = 17 := by omega
  rcases this with rfl | rfl | rfl | rfl | rfl | rfl | rfl | rfl | rfl | rfl | rfl
  all_goals
   ((conv => whnf); repeat' ((first | (with_reducible first | apply a_ | apply b_ | apply c_) | ((with_reducible first | apply d_ | apply e_ | apply f_ | apply g_); focus first | omega | (simp only [q_] <;> omega)) | ((with_reducible first | apply i_ | apply h_); focus first | omega | (simp only [q_] <;> omega)) | ((with_reducible apply h_); focus first | decide | kernel_rfl) | refine BCase.t (by decide) ?_ | refine BCase.f (by decide) ?_ | with_reducible first | apply l_ | apply m_ | apply n_ | apply o_ | refine p_ (fun _ => ?_) (fun _ => ?_)) <;> (conv => whnf)))
   exact Ret.mk rfl
 ·have e : lvlF op = 4 := by
   unfold lvlF
   rw [if_neg (by omega), if_neg (by omega), if_neg (by omega), if_neg (by omega), if_neg (by omega), if_neg (by omega), if_neg (by omega)]
  rw [e]
  ((conv => whnf); repeat' ((first | (with_reducible first | apply a_ | apply b_ | apply c_) | ((with_reducible first | apply d_ | apply e_ | apply f_ | apply g_); focus first | omega | (simp only [q_] <;> omega)) | ((with_reducible first | apply i_ | apply h_); focus first | omega | (simp only [q_] <;> omega)) | ((with_reducible apply h_); focus first | decide | kernel_rfl) | refine BCase.t (by decide) ?_ | refine BCase.f (by decide) ?_ | with_reducible first | apply l_ | apply m_ | apply n_ | apply o_ | refine p_ (fun _ => ?_) (fun _ => ?_)) <;> (conv => whnf)))
  all_goals first | exact Ret.mk rfl | (exfalso; omega)
def litT (v : ValueD) : TokenD := if v.Kind = 1 then ⟨2, 0, v.N, []⟩ else if v.Kind = 2 then ⟨3, 0, 0, v.S⟩ else if v.Kind = 3 then ⟨4, 0, 0, v.S⟩ else markT wNull
theorem ok_small {s : List UInt8} (h : s.length ≤ 1000) : okText s := by unfold okText; omega
theorem p_literal (v : ValueD) : Pure Tryd.prog 52 [vV v] (tV (litT v)) := by
 have pm := p_Mark wNull (ok_small (by decide))
 unfold litT
 refine pure_of Tryd.func52 (by rfl) rfl (by kernel_rfl) (by rfl) ?_
 by_cases h1 : v.Kind = 1
 ·rw [if_pos h1]
  ((conv => whnf); repeat' ((first | (with_reducible first | apply a_ | apply b_ | apply c_) | ((with_reducible first | apply d_ | apply e_ | apply f_ | apply g_); focus first | omega | (simp only [q_] <;> omega)) | ((with_reducible first | apply i_ | apply h_); focus first | omega | (simp only [q_] <;> omega)) | ((with_reducible apply h_); focus first | decide | kernel_rfl) | refine BCase.t (by decide) ?_ | refine BCase.f (by decide) ?_ | refine CallP.pure _ rfl _ (pm) ?_ | with_reducible first | apply l_ | apply m_ | apply n_ | apply o_ | refine p_ (fun _ => ?_) (fun _ => ?_)) <;> (conv => whnf)))
  all_goals first | exact Ret.eq rfl | (exfalso; omega)
 rw [if_neg h1]
 by_cases h2 : v.Kind = 2
 ·rw [if_pos h2]
  ((conv => whnf); repeat' ((first | (with_reducible first | apply a_ | apply b_ | apply c_) | ((with_reducible first | apply d_ | apply e_ | apply f_ | apply g_); focus first | omega | (simp only [q_] <;> omega)) | ((with_reducible first | apply i_ | apply h_); focus first | omega | (simp only [q_] <;> omega)) | ((with_reducible apply h_); focus first | decide | kernel_rfl) | refine BCase.t (by decide) ?_ | refine BCase.f (by decide) ?_ | refine CallP.pure _ rfl _ (pm) ?_ | with_reducible first | apply l_ | apply m_ | apply n_ | apply o_ | refine p_ (fun _ => ?_) (fun _ => ?_)) <;> (conv => whnf)))
  all_goals first | exact Ret.eq rfl | (exfalso; omega)
 rw [if_neg h2]
 by_cases h3 : v.Kind = 3
 ·rw [if_pos h3]
  ((conv => whnf); repeat' ((first | (with_reducible first | apply a_ | apply b_ | apply c_) | ((with_reducible first | apply d_ | apply e_ | apply f_ | apply g_); focus first | omega | (simp only [q_] <;> omega)) | ((with_reducible first | apply i_ | apply h_); focus first | omega | (simp only [q_] <;> omega)) | ((with_reducible apply h_); focus first | decide | kernel_rfl) | refine BCase.t (by decide) ?_ | refine BCase.f (by decide) ?_ | refine CallP.pure _ rfl _ (pm) ?_ | with_reducible first | apply l_ | apply m_ | apply n_ | apply o_ | refine p_ (fun _ => ?_) (fun _ => ?_)) <;> (conv => whnf)))
  all_goals first | exact Ret.eq rfl | (exfalso; omega)
 rw [if_neg h3]
 ((conv => whnf); repeat' ((first | (with_reducible first | apply a_ | apply b_ | apply c_) | ((with_reducible first | apply d_ | apply e_ | apply f_ | apply g_); focus first | omega | (simp only [q_] <;> omega)) | ((with_reducible first | apply i_ | apply h_); focus first | omega | (simp only [q_] <;> omega)) | ((with_reducible apply h_); focus first | decide | kernel_rfl) | refine BCase.t (by decide) ?_ | refine BCase.f (by decide) ?_ | refine CallP.pure _ rfl _ (pm) ?_ | with_reducible first | apply l_ | apply m_ | apply n_ | apply o_ | refine p_ (fun _ => ?_) (fun _ => ?_)) <;> (conv => whnf)))
 all_goals first | exact Ret.eq rfl | (exfalso; omega)
def atF (p : Prd) (k : Int) : List TokenD := if k ≤ p.2 then p.1 else markT sLp :: (p.1 ++ [markT sRp])
theorem p_at (p : Prd) (k : Int) (hl : p.1.length ≤ 90000) : Pure Tryd.prog 54 [prV p, pInt .i64 k] (slV 4 TokenD.c (atF p k)) := by
 have p1 := p_Mark sLp (ok_small (by decide))
 have p2 := p_Mark sRp (ok_small (by decide))
 have pj := p_join [.tok (markT sLp), .toks p.1, .tok (markT sRp)] (fun x hx => by simp only [List.mem_cons, List.not_mem_nil, or_false] at hx; rcases hx with rfl | rfl | rfl <;> trivial) (by simp) (by show (joinF [_, _, _]).length ≤ _; unfold joinF; simp [JPart.l]; omega)
 have ej : joinF [.tok (markT sLp), .toks p.1, .tok (markT sRp)] = markT sLp :: (p.1 ++ [markT sRp]) := by unfold joinF; simp [JPart.l]
 rw [ej] at pj
 unfold atF
 refine pure_of Tryd.func54 (by rfl) rfl (by kernel_rfl) (by rfl) ?_
 by_cases h : k ≤ p.2
 ·rw [if_pos h]
  ((conv => whnf); repeat' ((first | (with_reducible first | apply a_ | apply b_ | apply c_) | ((with_reducible first | apply d_ | apply e_ | apply f_ | apply g_); focus first | omega | (simp only [q_] <;> omega)) | ((with_reducible first | apply i_ | apply h_); focus first | omega | (simp only [q_] <;> omega)) | ((with_reducible apply h_); focus first | decide | kernel_rfl) | refine BCase.t (by decide) ?_ | refine BCase.f (by decide) ?_ | refine CallP.pure _ rfl _ (p1) ?_ | refine CallP.pure _ rfl _ (p2) ?_ | refine CallP.pure _ rfl _ (pj) ?_ | with_reducible first | apply l_ | apply m_ | apply n_ | apply o_ | refine p_ (fun _ => ?_) (fun _ => ?_)) <;> (conv => whnf)))
  all_goals first | exact Ret.eq rfl | (exfalso; omega)
 ·rw [if_neg h]
  ((conv => whnf); repeat' ((first | (with_reducible first | apply a_ | apply b_ | apply c_) | ((with_reducible first | apply d_ | apply e_ | apply f_ | apply g_); focus first | omega | (simp only [q_] <;> omega)) | ((with_reducible first | apply i_ | apply h_); focus first | omega | (simp only [q_] <;> omega)) | ((with_reducible apply h_); focus first | decide | kernel_rfl) | refine BCase.t (by decide) ?_ | refine BCase.f (by decide) ?_ | refine CallP.pure _ rfl _ (p1) ?_ | refine CallP.pure _ rfl _ (p2) ?_ | refine CallP.pure _ rfl _ (pj) ?_ | with_reducible first | apply l_ | apply m_ | apply n_ | apply o_ | refine p_ (fun _ => ?_) (fun _ => ?_)) <;> (conv => whnf)))
  all_goals first | exact Ret.eq rfl | (exfalso; omega)
end Go.Proofs.YtmcmagfondjopaaDoor.Pm
end
section
namespace Go.Proofs.YtmcmagfondjopaaDoor.Pm
open Go.RowKit K
set_option linter.unusedVariables false
set_option linter.unusedSimpArgs false
set_option maxRecDepth 100000
theorem Idx.lit {l : List (List C)} {n : Int} {r : List C} {K : List C → Prop} (h0 : decide (0 ≤ n) = true) (h : l[n.toNat]? = some r) (hk : K r) : Idx l n K := ⟨r, of_decide_eq_true h0, h, hk⟩
theorem p_span (op : Int) : Pure Tryd.prog 45 [pInt .i64 op] (.tup [pInt .i64 (leastK op), pInt .i64 (mostK op), pBool (decide (1 ≤ op ∧ op ≤ 25))]) := by
 refine pure_of Tryd.func45 (by rfl) rfl (by kernel_rfl) (by rfl) ?_
 by_cases h : 1 ≤ op ∧ op ≤ 25
 ·have hc : op = 1 ∨ op = 2 ∨ op = 3 ∨ op = 4 ∨ op = 5 ∨ op = 6 ∨ op = 7 ∨ op = 8 ∨ op = 9 ∨ op = 10 ∨ op = 11 ∨ op = 12 ∨ op = 13 ∨ op = 14 ∨ op = 15 ∨ op = 16 ∨ op = 17 ∨ op = 18 ∨ op = 19 ∨ op = 20 ∨ op = 21 ∨ op = 22 ∨ op = 23 ∨ op = 24 ∨ op = 25 := by omega
  clear h
  rcases hc with rfl | rfl | rfl | rfl | rfl | rfl | rfl | rfl | rfl | rfl | rfl | rfl | rfl | rfl | rfl | rfl | rfl | rfl | rfl | rfl | rfl | rfl | rfl | rfl | rfl
  all_goals
   ((conv => whnf); repeat' ((first | (with_reducible first | apply a_ | apply b_ | apply c_) | ((with_reducible first | apply d_ | apply e_ | apply f_ | apply g_); focus first | omega | (simp only [q_] <;> omega)) | ((with_reducible first | apply i_ | apply h_); focus first | omega | (simp only [q_] <;> omega)) | ((with_reducible apply h_); focus first | decide | kernel_rfl) | refine BCase.t (by decide) ?_ | refine BCase.f (by decide) ?_ | with_reducible first | apply l_ | apply m_ | apply n_ | apply o_ | refine p_ (fun _ => ?_) (fun _ => ?_)) <;> (conv => whnf)))
   exact Ret.eq rfl
 ·have e1 : leastK op = 2 := by unfold leastK; rw [if_neg (by omega), if_neg (by omega), if_neg (by omega)]
  have e2 : mostK op = 2 := by unfold mostK; rw [if_neg (by omega), e1]
  rw [e1, e2, decide_eq_false h]
  have h17 : 5 ≤ op → decide (op ≤ 17) = false := fun g => decide_eq_false (by omega)
  ((conv => whnf); repeat' ((first | (with_reducible first | apply a_ | apply b_ | apply c_) | ((with_reducible first | apply d_ | apply e_ | apply f_ | apply g_); focus first | omega | (simp only [q_] <;> omega)) | ((with_reducible first | apply i_ | apply h_); focus first | omega | (simp only [q_] <;> omega)) | ((with_reducible apply h_); focus first | decide | kernel_rfl) | refine BCase.t (by decide) ?_ | refine BCase.f (by decide) ?_ | with_reducible first | apply l_ | apply m_ | apply n_ | apply o_ | refine p_ (fun _ => ?_) (fun _ => ?_)) <;> (conv => whnf)))
  all_goals first
   | exact Ret.eq rfl
   | (rename_i g; exact Ret.eq (by rw [h17 g]))
theorem p_kidsof (op : Int) : Pure Tryd.prog 37 [pInt .i64 op] (.tup [pInt .i64 (if 1 ≤ op ∧ op ≤ 25 then leastK op else -1), pInt .i64 (if 1 ≤ op ∧ op ≤ 25 then mostK op else -1)]) := by
 refine pure_of Tryd.func37 (by rfl) rfl (by kernel_rfl) (by rfl) ?_
 by_cases h : 1 ≤ op ∧ op ≤ 25
 ·have hc : op = 1 ∨ op = 2 ∨ op = 3 ∨ op = 4 ∨ op = 5 ∨ op = 6 ∨ op = 7 ∨ op = 8 ∨ op = 9 ∨ op = 10 ∨ op = 11 ∨ op = 12 ∨ op = 13 ∨ op = 14 ∨ op = 15 ∨ op = 16 ∨ op = 17 ∨ op = 18 ∨ op = 19 ∨ op = 20 ∨ op = 21 ∨ op = 22 ∨ op = 23 ∨ op = 24 ∨ op = 25 := by omega
  clear h
  rcases hc with rfl | rfl | rfl | rfl | rfl | rfl | rfl | rfl | rfl | rfl | rfl | rfl | rfl | rfl | rfl | rfl | rfl | rfl | rfl | rfl | rfl | rfl | rfl | rfl | rfl
  all_goals
   ((conv => whnf); repeat' ((first | (with_reducible first | apply a_ | apply b_ | apply c_) | ((with_reducible first | apply d_ | apply e_ | apply f_ | apply g_); focus first | omega | (simp only [q_] <;> omega)) | ((with_reducible first | apply i_ | apply h_); focus first | omega | (simp only [q_] <;> omega)) | ((with_reducible apply h_); focus first | decide | kernel_rfl) | refine BCase.t (by decide) ?_ | refine BCase.f (by decide) ?_ | (refine Idx.lit rfl rfl ?_) | with_reducible first | apply l_ | apply m_ | apply n_ | apply o_ | refine p_ (fun _ => ?_) (fun _ => ?_)) <;> (conv => whnf)))
   exact Ret.eq rfl
 ·rw [if_neg h, if_neg h]
  ((conv => whnf); repeat' ((first | (with_reducible first | apply a_ | apply b_ | apply c_) | ((with_reducible first | apply d_ | apply e_ | apply f_ | apply g_); focus first | omega | (simp only [q_] <;> omega)) | ((with_reducible first | apply i_ | apply h_); focus first | omega | (simp only [q_] <;> omega)) | ((with_reducible apply h_); focus first | decide | kernel_rfl) | refine BCase.t (by decide) ?_ | refine BCase.f (by decide) ?_ | with_reducible first | apply l_ | apply m_ | apply n_ | apply o_ | refine p_ (fun _ => ?_) (fun _ => ?_)) <;> (conv => whnf)))
  all_goals exact Ret.eq rfl
theorem noV_eq (v : ValueD) : ValueD.eqB v noV = (decide (v.Kind = 0) && (decide (v.N = 0) && (decide (tx v.S = tx []) && true))) := rfl
theorem alF_cases (n : NodeD) :
  (¬ (1 ≤ n.Op ∧ n.Op ≤ 25) ∧ alF n = 7)
  ∨ ((1 ≤ n.Op ∧ n.Op ≤ 25) ∧ (n.Kids < leastK n.Op ∨ mostK n.Op < n.Kids) ∧ alF n = 1)
  ∨ ((1 ≤ n.Op ∧ n.Op ≤ 25) ∧ leastK n.Op ≤ n.Kids ∧ n.Kids ≤ mostK n.Op ∧
   ((n.Op = 1 ∧ n.Name ≠ [] ∧ alF n = 1) ∨ (n.Op = 1 ∧ n.Name = [] ∧ vChk n.V ≠ 0 ∧ alF n = vChk n.V) ∨ (n.Op = 1 ∧ n.Name = [] ∧ vChk n.V = 0 ∧ n.V.N < 0 ∧ alF n = 3) ∨ (n.Op = 1 ∧ n.Name = [] ∧ vChk n.V = 0 ∧ ¬ n.V.N < 0 ∧ alF n = 0)
    ∨ (n.Op ≠ 1 ∧ ValueD.eqB n.V noV = false ∧ alF n = 1)
    ∨ (n.Op = 2 ∧ ValueD.eqB n.V noV = true ∧ nameB n.Name = false ∧ alF n = 1) ∨ (n.Op = 2 ∧ ValueD.eqB n.V noV = true ∧ nameB n.Name = true ∧ alF n = 0)
    ∨ (n.Op ≠ 1 ∧ n.Op ≠ 2 ∧ ValueD.eqB n.V noV = true ∧ n.Name ≠ [] ∧ alF n = 1) ∨ (n.Op ≠ 1 ∧ n.Op ≠ 2 ∧ ValueD.eqB n.V noV = true ∧ n.Name = [] ∧ alF n = 0))) := by
 unfold alF
 by_cases h : 1 ≤ n.Op ∧ n.Op ≤ 25
 ·rw [if_neg (by omega)]
  by_cases hk : n.Kids < leastK n.Op ∨ mostK n.Op < n.Kids
  ·exact .inr (.inl ⟨h, hk, by rw [if_pos (by rcases hk with q | q; exact .inl q; exact .inr (.inl q))]⟩)
  ·refine .inr (.inr ⟨h, by omega, by omega, ?_⟩)
   have k1 : ¬ n.Kids < leastK n.Op := fun q => hk (.inl q)
   have k2 : ¬ mostK n.Op < n.Kids := fun q => hk (.inr q)
   by_cases h1 : n.Op = 1
   ·by_cases hN : n.Name = []
    ·by_cases hv : vChk n.V = 0
     ·by_cases hn : n.V.N < 0
      ·refine .inr (.inr (.inl ⟨h1, hN, hv, hn, ?_⟩)); simp [k1, k2, h1, hN, hv, hn]
       rw [h1] at k1 k2; omega
      ·refine .inr (.inr (.inr (.inl ⟨h1, hN, hv, hn, ?_⟩))); simp [k1, k2, h1, hN, hv, hn]
       rw [h1] at k1 k2; omega
     ·refine .inr (.inl ⟨h1, hN, hv, ?_⟩); simp [k1, k2, h1, hN, hv]
      rw [h1] at k1 k2; intro q; exfalso; omega
    ·refine .inl ⟨h1, hN, ?_⟩; simp [h1, hN]
   ·cases hV : ValueD.eqB n.V noV with
    | false => refine .inr (.inr (.inr (.inr (.inl ⟨h1, rfl, ?_⟩)))); simp [h1]
    | true =>
     by_cases h2 : n.Op = 2
     ·cases hB : nameB n.Name with
      | false => refine .inr (.inr (.inr (.inr (.inr (.inl ⟨h2, rfl, rfl, ?_⟩))))); simp [h2]
      | true =>
       refine .inr (.inr (.inr (.inr (.inr (.inr (.inl ⟨h2, rfl, rfl, ?_⟩)))))); simp [h2]
       rw [h2] at k1 k2; omega
     ·by_cases hN : n.Name = []
      ·refine .inr (.inr (.inr (.inr (.inr (.inr (.inr (.inr ⟨h1, h2, rfl, hN, ?_⟩))))))); simp [h1, h2, hN, k1, k2]
      ·refine .inr (.inr (.inr (.inr (.inr (.inr (.inr (.inl ⟨h1, h2, rfl, hN, ?_⟩))))))); simp [h1, h2, hN]
 ·exact .inl ⟨h, by rw [if_pos (by omega)]⟩
theorem p_alone (n : NodeD) (hn : okText n.Name) : Pure Tryd.prog 32 [nV n] (pInt .i64 (alF n)) := by
 have pn := p_isname n.Name hn
 have pv := p_vcheck n.V
 have kk := leastK_pos n.Op
 have tn : n.Name = [] → tx n.Name = ⟨#[]⟩ := fun e => by rw [e]; rfl
 have tn2 : n.Name ≠ [] → ¬ tx n.Name = ⟨#[]⟩ := fun e q => e (tx_mk.1 q)
 refine pure_of Tryd.func32 (by rfl) rfl (by kernel_rfl) (by rfl) ?_
 rcases alF_cases n with ⟨h, e⟩ | ⟨h, hk, e⟩ | ⟨h, k1, k2, ⟨h1, hN, e⟩ | ⟨h1, hN, hv, e⟩ | ⟨h1, hN, hv, hn, e⟩ | ⟨h1, hN, hv, hn, e⟩ | ⟨h1, hV, e⟩ | ⟨h2, hV, hB, e⟩ | ⟨h2, hV, hB, e⟩ | ⟨h1, h2, hV, hN, e⟩ | ⟨h1, h2, hV, hN, e⟩⟩ <;> rw [e]
 ·((conv => whnf); repeat' ((first | (with_reducible first | apply a_ | apply b_ | apply c_) | ((with_reducible first | apply d_ | apply e_ | apply f_ | apply g_); focus first | omega | (simp only [q_] <;> omega)) | ((with_reducible first | apply i_ | apply h_); focus first | omega | (simp only [q_] <;> omega)) | ((with_reducible apply h_); focus first | decide | kernel_rfl) | refine BCase.t (by decide) ?_ | refine BCase.f (by decide) ?_ | refine CallP.pure _ rfl _ (p_span n.Op) ?_ | refine CallP.pure _ rfl _ (pv) ?_ | refine CallP.pure _ rfl _ (pn) ?_ | with_reducible first | apply l_ | apply m_ | apply n_ | apply o_ | refine p_ (fun _ => ?_) (fun _ => ?_)) <;> (conv => whnf)))
  all_goals exact Ret.int rfl
 ·((conv => whnf); repeat' ((first | (with_reducible first | apply a_ | apply b_ | apply c_) | ((with_reducible first | apply d_ | apply e_ | apply f_ | apply g_); focus first | omega | (simp only [q_] <;> omega)) | ((with_reducible first | apply i_ | apply h_); focus first | omega | (simp only [q_] <;> omega)) | ((with_reducible apply h_); focus first | decide | kernel_rfl) | refine BCase.t (by decide) ?_ | refine BCase.f (by decide) ?_ | refine CallP.pure _ rfl _ (p_span n.Op) ?_ | refine CallP.pure _ rfl _ (pv) ?_ | refine CallP.pure _ rfl _ (pn) ?_ | with_reducible first | apply l_ | apply m_ | apply n_ | apply o_ | refine p_ (fun _ => ?_) (fun _ => ?_)) <;> (conv => whnf)))
  all_goals first | exact Ret.int rfl | (exfalso; omega)
 ·((conv => whnf); repeat' ((first | (with_reducible first | apply a_ | apply b_ | apply c_) | ((with_reducible first | apply d_ | apply e_ | apply f_ | apply g_); focus first | omega | (simp only [q_] <;> omega)) | ((with_reducible first | apply i_ | apply h_); focus first | omega | (simp only [q_] <;> omega)) | ((with_reducible apply h_); focus first | decide | kernel_rfl) | refine BCase.t (by decide) ?_ | refine BCase.f (by decide) ?_ | refine CallP.pure _ rfl _ (p_span n.Op) ?_ | refine CallP.pure _ rfl _ (pv) ?_ | refine CallP.pure _ rfl _ (pn) ?_ | (refine BCase.dt (tn2 hN) ?_) | with_reducible first | apply l_ | apply m_ | apply n_ | apply o_ | refine p_ (fun _ => ?_) (fun _ => ?_)) <;> (conv => whnf)))
  all_goals exact Ret.int rfl
 ·((conv => whnf); repeat' ((first | (with_reducible first | apply a_ | apply b_ | apply c_) | ((with_reducible first | apply d_ | apply e_ | apply f_ | apply g_); focus first | omega | (simp only [q_] <;> omega)) | ((with_reducible first | apply i_ | apply h_); focus first | omega | (simp only [q_] <;> omega)) | ((with_reducible apply h_); focus first | decide | kernel_rfl) | refine BCase.t (by decide) ?_ | refine BCase.f (by decide) ?_ | refine CallP.pure _ rfl _ (p_span n.Op) ?_ | refine CallP.pure _ rfl _ (pv) ?_ | refine CallP.pure _ rfl _ (pn) ?_ | (refine BCase.df (not_not_intro (tn hN)) ?_) | (refine BCase.dt hv ?_) | with_reducible first | apply l_ | apply m_ | apply n_ | apply o_ | refine p_ (fun _ => ?_) (fun _ => ?_)) <;> (conv => whnf)))
  all_goals exact Ret.int rfl
 ·rw [hv] at pv
  ((conv => whnf); repeat' ((first | (with_reducible first | apply a_ | apply b_ | apply c_) | ((with_reducible first | apply d_ | apply e_ | apply f_ | apply g_); focus first | omega | (simp only [q_] <;> omega)) | ((with_reducible first | apply i_ | apply h_); focus first | omega | (simp only [q_] <;> omega)) | ((with_reducible apply h_); focus first | decide | kernel_rfl) | refine BCase.t (by decide) ?_ | refine BCase.f (by decide) ?_ | refine CallP.pure _ rfl _ (p_span n.Op) ?_ | refine CallP.pure _ rfl _ (pv) ?_ | refine CallP.pure _ rfl _ (pn) ?_ | (refine BCase.df (not_not_intro (tn hN)) ?_) | with_reducible first | apply l_ | apply m_ | apply n_ | apply o_ | refine p_ (fun _ => ?_) (fun _ => ?_)) <;> (conv => whnf)))
  all_goals exact Ret.int rfl
 ·rw [hv] at pv
  ((conv => whnf); repeat' ((first | (with_reducible first | apply a_ | apply b_ | apply c_) | ((with_reducible first | apply d_ | apply e_ | apply f_ | apply g_); focus first | omega | (simp only [q_] <;> omega)) | ((with_reducible first | apply i_ | apply h_); focus first | omega | (simp only [q_] <;> omega)) | ((with_reducible apply h_); focus first | decide | kernel_rfl) | refine BCase.t (by decide) ?_ | refine BCase.f (by decide) ?_ | refine CallP.pure _ rfl _ (p_span n.Op) ?_ | refine CallP.pure _ rfl _ (pv) ?_ | refine CallP.pure _ rfl _ (pn) ?_ | (refine BCase.df (not_not_intro (tn hN)) ?_) | with_reducible first | apply l_ | apply m_ | apply n_ | apply o_ | refine p_ (fun _ => ?_) (fun _ => ?_)) <;> (conv => whnf)))
  all_goals exact Ret.int rfl
 ·((conv => whnf); repeat' ((first | (with_reducible first | apply a_ | apply b_ | apply c_) | ((with_reducible first | apply d_ | apply e_ | apply f_ | apply g_); focus first | omega | (simp only [q_] <;> omega)) | ((with_reducible first | apply i_ | apply h_); focus first | omega | (simp only [q_] <;> omega)) | ((with_reducible apply h_); focus first | decide | kernel_rfl) | refine BCase.t (by decide) ?_ | refine BCase.f (by decide) ?_ | refine CallP.pure _ rfl _ (p_span n.Op) ?_ | refine CallP.pure _ rfl _ (pv) ?_ | refine CallP.pure _ rfl _ (pn) ?_ | (refine BCase.t (congrArg not hV) ?_) | with_reducible first | apply l_ | apply m_ | apply n_ | apply o_ | refine p_ (fun _ => ?_) (fun _ => ?_)) <;> (conv => whnf)))
  all_goals exact Ret.int rfl
 ·rw [hB] at pn
  ((conv => whnf); repeat' ((first | (with_reducible first | apply a_ | apply b_ | apply c_) | ((with_reducible first | apply d_ | apply e_ | apply f_ | apply g_); focus first | omega | (simp only [q_] <;> omega)) | ((with_reducible first | apply i_ | apply h_); focus first | omega | (simp only [q_] <;> omega)) | ((with_reducible apply h_); focus first | decide | kernel_rfl) | refine BCase.t (by decide) ?_ | refine BCase.f (by decide) ?_ | refine CallP.pure _ rfl _ (p_span n.Op) ?_ | refine CallP.pure _ rfl _ (pv) ?_ | refine CallP.pure _ rfl _ (pn) ?_ | (refine BCase.f (congrArg not hV) ?_) | with_reducible first | apply l_ | apply m_ | apply n_ | apply o_ | refine p_ (fun _ => ?_) (fun _ => ?_)) <;> (conv => whnf)))
  all_goals exact Ret.int rfl
 ·rw [hB] at pn
  ((conv => whnf); repeat' ((first | (with_reducible first | apply a_ | apply b_ | apply c_) | ((with_reducible first | apply d_ | apply e_ | apply f_ | apply g_); focus first | omega | (simp only [q_] <;> omega)) | ((with_reducible first | apply i_ | apply h_); focus first | omega | (simp only [q_] <;> omega)) | ((with_reducible apply h_); focus first | decide | kernel_rfl) | refine BCase.t (by decide) ?_ | refine BCase.f (by decide) ?_ | refine CallP.pure _ rfl _ (p_span n.Op) ?_ | refine CallP.pure _ rfl _ (pv) ?_ | refine CallP.pure _ rfl _ (pn) ?_ | (refine BCase.f (congrArg not hV) ?_) | with_reducible first | apply l_ | apply m_ | apply n_ | apply o_ | refine p_ (fun _ => ?_) (fun _ => ?_)) <;> (conv => whnf)))
  all_goals exact Ret.int rfl
 ·((conv => whnf); repeat' ((first | (with_reducible first | apply a_ | apply b_ | apply c_) | ((with_reducible first | apply d_ | apply e_ | apply f_ | apply g_); focus first | omega | (simp only [q_] <;> omega)) | ((with_reducible first | apply i_ | apply h_); focus first | omega | (simp only [q_] <;> omega)) | ((with_reducible apply h_); focus first | decide | kernel_rfl) | refine BCase.t (by decide) ?_ | refine BCase.f (by decide) ?_ | refine CallP.pure _ rfl _ (p_span n.Op) ?_ | refine CallP.pure _ rfl _ (pv) ?_ | refine CallP.pure _ rfl _ (pn) ?_ | (refine BCase.f (congrArg not hV) ?_) | (refine BCase.dt (tn2 hN) ?_) | with_reducible first | apply l_ | apply m_ | apply n_ | apply o_ | refine p_ (fun _ => ?_) (fun _ => ?_)) <;> (conv => whnf)))
  all_goals exact Ret.int rfl
 ·((conv => whnf); repeat' ((first | (with_reducible first | apply a_ | apply b_ | apply c_) | ((with_reducible first | apply d_ | apply e_ | apply f_ | apply g_); focus first | omega | (simp only [q_] <;> omega)) | ((with_reducible first | apply i_ | apply h_); focus first | omega | (simp only [q_] <;> omega)) | ((with_reducible apply h_); focus first | decide | kernel_rfl) | refine BCase.t (by decide) ?_ | refine BCase.f (by decide) ?_ | refine CallP.pure _ rfl _ (p_span n.Op) ?_ | refine CallP.pure _ rfl _ (pv) ?_ | refine CallP.pure _ rfl _ (pn) ?_ | (refine BCase.f (congrArg not hV) ?_) | (refine BCase.df (not_not_intro (tn hN)) ?_) | with_reducible first | apply l_ | apply m_ | apply n_ | apply o_ | refine p_ (fun _ => ?_) (fun _ => ?_)) <;> (conv => whnf)))
  all_goals exact Ret.int rfl
theorem p_nodecheck (n : NodeD) (hn : okText n.Name) : Pure Tryd.prog 11 [nV n] (pInt .i64 (alF n)) := by
 have pn := p_namecheck n.Name hn
 have pv := p_vcheckref n.V
 have kk := leastK_pos n.Op
 have tn : n.Name = [] → tx n.Name = ⟨#[]⟩ := fun e => by rw [e]; rfl
 have tn2 : n.Name ≠ [] → ¬ tx n.Name = ⟨#[]⟩ := fun e q => e (tx_mk.1 q)
 refine pure_of Tryd.func11 (by rfl) rfl (by kernel_rfl) (by rfl) ?_
 rcases alF_cases n with ⟨h, e⟩ | ⟨h, hk, e⟩ | ⟨h, k1, k2, ⟨h1, hN, e⟩ | ⟨h1, hN, hv, e⟩ | ⟨h1, hN, hv, hn, e⟩ | ⟨h1, hN, hv, hn, e⟩ | ⟨h1, hV, e⟩ | ⟨h2, hV, hB, e⟩ | ⟨h2, hV, hB, e⟩ | ⟨h1, h2, hV, hN, e⟩ | ⟨h1, h2, hV, hN, e⟩⟩ <;> rw [e]
 ·((conv => whnf); repeat' ((first | (with_reducible first | apply a_ | apply b_ | apply c_) | ((with_reducible first | apply d_ | apply e_ | apply f_ | apply g_); focus first | omega | (simp only [q_] <;> omega)) | ((with_reducible first | apply i_ | apply h_); focus first | omega | (simp only [q_] <;> omega)) | ((with_reducible apply h_); focus first | decide | kernel_rfl) | refine BCase.t (by decide) ?_ | refine BCase.f (by decide) ?_ | refine CallP.pure _ rfl _ (p_kidsof n.Op) ?_ | refine CallP.pure _ rfl _ (pv) ?_ | refine CallP.pure _ rfl _ (pn) ?_ | with_reducible first | apply l_ | apply m_ | apply n_ | apply o_ | refine p_ (fun _ => ?_) (fun _ => ?_)) <;> (conv => whnf)))
  all_goals exact Ret.int rfl
 ·((conv => whnf); repeat' ((first | (with_reducible first | apply a_ | apply b_ | apply c_) | ((with_reducible first | apply d_ | apply e_ | apply f_ | apply g_); focus first | omega | (simp only [q_] <;> omega)) | ((with_reducible first | apply i_ | apply h_); focus first | omega | (simp only [q_] <;> omega)) | ((with_reducible apply h_); focus first | decide | kernel_rfl) | refine BCase.t (by decide) ?_ | refine BCase.f (by decide) ?_ | refine CallP.pure _ rfl _ (p_kidsof n.Op) ?_ | refine CallP.pure _ rfl _ (pv) ?_ | refine CallP.pure _ rfl _ (pn) ?_ | with_reducible first | apply l_ | apply m_ | apply n_ | apply o_ | refine p_ (fun _ => ?_) (fun _ => ?_)) <;> (conv => whnf)))
  all_goals first | exact Ret.int rfl | (exfalso; omega)
 ·((conv => whnf); repeat' ((first | (with_reducible first | apply a_ | apply b_ | apply c_) | ((with_reducible first | apply d_ | apply e_ | apply f_ | apply g_); focus first | omega | (simp only [q_] <;> omega)) | ((with_reducible first | apply i_ | apply h_); focus first | omega | (simp only [q_] <;> omega)) | ((with_reducible apply h_); focus first | decide | kernel_rfl) | refine BCase.t (by decide) ?_ | refine BCase.f (by decide) ?_ | refine CallP.pure _ rfl _ (p_kidsof n.Op) ?_ | refine CallP.pure _ rfl _ (pv) ?_ | refine CallP.pure _ rfl _ (pn) ?_ | (refine BCase.dt (tn2 hN) ?_) | with_reducible first | apply l_ | apply m_ | apply n_ | apply o_ | refine p_ (fun _ => ?_) (fun _ => ?_)) <;> (conv => whnf)))
  all_goals exact Ret.int rfl
 ·((conv => whnf); repeat' ((first | (with_reducible first | apply a_ | apply b_ | apply c_) | ((with_reducible first | apply d_ | apply e_ | apply f_ | apply g_); focus first | omega | (simp only [q_] <;> omega)) | ((with_reducible first | apply i_ | apply h_); focus first | omega | (simp only [q_] <;> omega)) | ((with_reducible apply h_); focus first | decide | kernel_rfl) | refine BCase.t (by decide) ?_ | refine BCase.f (by decide) ?_ | refine CallP.pure _ rfl _ (p_kidsof n.Op) ?_ | refine CallP.pure _ rfl _ (pv) ?_ | refine CallP.pure _ rfl _ (pn) ?_ | (refine BCase.df (not_not_intro (tn hN)) ?_) | (refine BCase.dt hv ?_) | with_reducible first | apply l_ | apply m_ | apply n_ | apply o_ | refine p_ (fun _ => ?_) (fun _ => ?_)) <;> (conv => whnf)))
  all_goals exact Ret.int rfl
 ·rw [hv] at pv
  ((conv => whnf); repeat' ((first | (with_reducible first | apply a_ | apply b_ | apply c_) | ((with_reducible first | apply d_ | apply e_ | apply f_ | apply g_); focus first | omega | (simp only [q_] <;> omega)) | ((with_reducible first | apply i_ | apply h_); focus first | omega | (simp only [q_] <;> omega)) | ((with_reducible apply h_); focus first | decide | kernel_rfl) | refine BCase.t (by decide) ?_ | refine BCase.f (by decide) ?_ | refine CallP.pure _ rfl _ (p_kidsof n.Op) ?_ | refine CallP.pure _ rfl _ (pv) ?_ | refine CallP.pure _ rfl _ (pn) ?_ | (refine BCase.df (not_not_intro (tn hN)) ?_) | with_reducible first | apply l_ | apply m_ | apply n_ | apply o_ | refine p_ (fun _ => ?_) (fun _ => ?_)) <;> (conv => whnf)))
  all_goals exact Ret.int rfl
 ·rw [hv] at pv
  ((conv => whnf); repeat' ((first | (with_reducible first | apply a_ | apply b_ | apply c_) | ((with_reducible first | apply d_ | apply e_ | apply f_ | apply g_); focus first | omega | (simp only [q_] <;> omega)) | ((with_reducible first | apply i_ | apply h_); focus first | omega | (simp only [q_] <;> omega)) | ((with_reducible apply h_); focus first | decide | kernel_rfl) | refine BCase.t (by decide) ?_ | refine BCase.f (by decide) ?_ | refine CallP.pure _ rfl _ (p_kidsof n.Op) ?_ | refine CallP.pure _ rfl _ (pv) ?_ | refine CallP.pure _ rfl _ (pn) ?_ | (refine BCase.df (not_not_intro (tn hN)) ?_) | with_reducible first | apply l_ | apply m_ | apply n_ | apply o_ | refine p_ (fun _ => ?_) (fun _ => ?_)) <;> (conv => whnf)))
  all_goals exact Ret.int rfl
 ·((conv => whnf); repeat' ((first | (with_reducible first | apply a_ | apply b_ | apply c_) | ((with_reducible first | apply d_ | apply e_ | apply f_ | apply g_); focus first | omega | (simp only [q_] <;> omega)) | ((with_reducible first | apply i_ | apply h_); focus first | omega | (simp only [q_] <;> omega)) | ((with_reducible apply h_); focus first | decide | kernel_rfl) | refine BCase.t (by decide) ?_ | refine BCase.f (by decide) ?_ | refine CallP.pure _ rfl _ (p_kidsof n.Op) ?_ | refine CallP.pure _ rfl _ (pv) ?_ | refine CallP.pure _ rfl _ (pn) ?_ | (refine BCase.t (congrArg not hV) ?_) | with_reducible first | apply l_ | apply m_ | apply n_ | apply o_ | refine p_ (fun _ => ?_) (fun _ => ?_)) <;> (conv => whnf)))
  all_goals exact Ret.int rfl
 ·rw [hB] at pn
  ((conv => whnf); repeat' ((first | (with_reducible first | apply a_ | apply b_ | apply c_) | ((with_reducible first | apply d_ | apply e_ | apply f_ | apply g_); focus first | omega | (simp only [q_] <;> omega)) | ((with_reducible first | apply i_ | apply h_); focus first | omega | (simp only [q_] <;> omega)) | ((with_reducible apply h_); focus first | decide | kernel_rfl) | refine BCase.t (by decide) ?_ | refine BCase.f (by decide) ?_ | refine CallP.pure _ rfl _ (p_kidsof n.Op) ?_ | refine CallP.pure _ rfl _ (pv) ?_ | refine CallP.pure _ rfl _ (pn) ?_ | (refine BCase.f (congrArg not hV) ?_) | with_reducible first | apply l_ | apply m_ | apply n_ | apply o_ | refine p_ (fun _ => ?_) (fun _ => ?_)) <;> (conv => whnf)))
  all_goals exact Ret.int rfl
 ·rw [hB] at pn
  ((conv => whnf); repeat' ((first | (with_reducible first | apply a_ | apply b_ | apply c_) | ((with_reducible first | apply d_ | apply e_ | apply f_ | apply g_); focus first | omega | (simp only [q_] <;> omega)) | ((with_reducible first | apply i_ | apply h_); focus first | omega | (simp only [q_] <;> omega)) | ((with_reducible apply h_); focus first | decide | kernel_rfl) | refine BCase.t (by decide) ?_ | refine BCase.f (by decide) ?_ | refine CallP.pure _ rfl _ (p_kidsof n.Op) ?_ | refine CallP.pure _ rfl _ (pv) ?_ | refine CallP.pure _ rfl _ (pn) ?_ | (refine BCase.f (congrArg not hV) ?_) | with_reducible first | apply l_ | apply m_ | apply n_ | apply o_ | refine p_ (fun _ => ?_) (fun _ => ?_)) <;> (conv => whnf)))
  all_goals exact Ret.int rfl
 ·((conv => whnf); repeat' ((first | (with_reducible first | apply a_ | apply b_ | apply c_) | ((with_reducible first | apply d_ | apply e_ | apply f_ | apply g_); focus first | omega | (simp only [q_] <;> omega)) | ((with_reducible first | apply i_ | apply h_); focus first | omega | (simp only [q_] <;> omega)) | ((with_reducible apply h_); focus first | decide | kernel_rfl) | refine BCase.t (by decide) ?_ | refine BCase.f (by decide) ?_ | refine CallP.pure _ rfl _ (p_kidsof n.Op) ?_ | refine CallP.pure _ rfl _ (pv) ?_ | refine CallP.pure _ rfl _ (pn) ?_ | (refine BCase.f (congrArg not hV) ?_) | (refine BCase.dt (tn2 hN) ?_) | with_reducible first | apply l_ | apply m_ | apply n_ | apply o_ | refine p_ (fun _ => ?_) (fun _ => ?_)) <;> (conv => whnf)))
  all_goals exact Ret.int rfl
 ·((conv => whnf); repeat' ((first | (with_reducible first | apply a_ | apply b_ | apply c_) | ((with_reducible first | apply d_ | apply e_ | apply f_ | apply g_); focus first | omega | (simp only [q_] <;> omega)) | ((with_reducible first | apply i_ | apply h_); focus first | omega | (simp only [q_] <;> omega)) | ((with_reducible apply h_); focus first | decide | kernel_rfl) | refine BCase.t (by decide) ?_ | refine BCase.f (by decide) ?_ | refine CallP.pure _ rfl _ (p_kidsof n.Op) ?_ | refine CallP.pure _ rfl _ (pv) ?_ | refine CallP.pure _ rfl _ (pn) ?_ | (refine BCase.f (congrArg not hV) ?_) | (refine BCase.df (not_not_intro (tn hN)) ?_) | with_reducible first | apply l_ | apply m_ | apply n_ | apply o_ | refine p_ (fun _ => ?_) (fun _ => ?_)) <;> (conv => whnf)))
  all_goals exact Ret.int rfl
end Go.Proofs.YtmcmagfondjopaaDoor.Pm
end
section
namespace Go.Proofs.YtmcmagfondjopaaDoor.Pm
open Go.RowKit K
set_option linter.unusedVariables false
set_option linter.unusedSimpArgs false
set_option maxRecDepth 100000
abbrev kidV (kids : List Prd) : PV := .d (.c (.sl 2 (kids.map prC)))
def notT (op : Int) : List TokenD := if op = 19 ∨ op = 21 ∨ op = 23 ∨ op = 25 then [markT wNot] else []
theorem joinF_cons (p : JPart) (ps : List JPart) : joinF (p :: ps) = p.l ++ joinF ps := rfl
theorem joinF_nil : joinF [] = [] := rfl
theorem at_len (p : Prd) (k : Int) : (atF p k).length ≤ p.1.length + 2 := by
 unfold atF
 split
 ·omega
 ·rw [List.length_cons, List.length_append, List.length_singleton]; omega
theorem p_joinL (ps : List JPart) (x : List TokenD) (hk : ∀ p ∈ ps, p.ok) (hl : ps.length ≤ 100000) (hx : joinF ps = x) (hj : x.length ≤ 100000) : Pure Tryd.prog 51 [.d (.c (.sl 1 (ps.map JPart.c)))] (slV 4 TokenD.c x) := by
 subst hx; exact p_join ps hk hl hj
theorem p_asked1 (n : NodeD) (k0 : Prd) (hop : n.Op = 18 ∨ n.Op = 19) (h0 : k0.1.length ≤ 1000) : Pure Tryd.prog 55 [nV n, kidV [k0]] (slV 4 TokenD.c (atF k0 5 ++ (markT wIs :: (notT n.Op ++ [markT wNull])))) := by
 have pa := p_at k0 5 (by omega)
 have ha := at_len k0 5
 have pn := p_joinL [.str wNot] [markT wNot] (by intro p hp; rw [List.mem_singleton] at hp; subst hp; exact ok_small (by decide)) (by decide) rfl (by simp)
 refine pure_of Tryd.func55 (by rfl) rfl (by kernel_rfl) (by rfl) ?_
 rcases hop with g | g
 ·have en : notT n.Op = [] := by unfold notT; rw [if_neg (by omega)]
  rw [en]
  have pj := p_joinL [.toks (atF k0 5), .str wIs, .toks [], .str wNull] (atF k0 5 ++ (markT wIs :: ([] ++ [markT wNull]))) (by intro p hp; simp only [List.mem_cons, List.not_mem_nil, or_false] at hp; rcases hp with rfl | rfl | rfl | rfl <;> first | trivial | exact ok_small (by decide)) (by simp) (by simp [joinF_cons, joinF_nil, JPart.l]) (by simp; omega)
  ((conv => whnf); repeat' ((first | (with_reducible first | apply a_ | apply b_ | apply c_) | ((with_reducible first | apply d_ | apply e_ | apply f_ | apply g_); focus first | omega | (simp only [q_] <;> omega)) | ((with_reducible first | apply i_ | apply h_); focus first | omega | (simp only [q_] <;> omega)) | ((with_reducible apply h_); focus first | decide | kernel_rfl) | refine BCase.t (by decide) ?_ | refine BCase.f (by decide) ?_ | refine CallP.pure _ rfl _ (pa) ?_ | refine CallP.pure _ rfl _ (pn) ?_ | refine CallP.pure _ rfl _ (pj) ?_ | (refine Idx.lit rfl rfl ?_) | with_reducible first | apply l_ | apply m_ | apply n_ | apply o_ | refine p_ (fun _ => ?_) (fun _ => ?_)) <;> (conv => whnf)))
  all_goals first | exact Ret.eq rfl | (exfalso; omega)
 ·have en : notT n.Op = [markT wNot] := by unfold notT; rw [if_pos (by omega)]
  rw [en]
  have pj := p_joinL [.toks (atF k0 5), .str wIs, .toks [markT wNot], .str wNull] (atF k0 5 ++ (markT wIs :: ([markT wNot] ++ [markT wNull]))) (by intro p hp; simp only [List.mem_cons, List.not_mem_nil, or_false] at hp; rcases hp with rfl | rfl | rfl | rfl <;> first | trivial | exact ok_small (by decide)) (by simp) (by simp [joinF_cons, joinF_nil, JPart.l]) (by simp; omega)
  ((conv => whnf); repeat' ((first | (with_reducible first | apply a_ | apply b_ | apply c_) | ((with_reducible first | apply d_ | apply e_ | apply f_ | apply g_); focus first | omega | (simp only [q_] <;> omega)) | ((with_reducible first | apply i_ | apply h_); focus first | omega | (simp only [q_] <;> omega)) | ((with_reducible apply h_); focus first | decide | kernel_rfl) | refine BCase.t (by decide) ?_ | refine BCase.f (by decide) ?_ | refine CallP.pure _ rfl _ (pa) ?_ | refine CallP.pure _ rfl _ (pn) ?_ | refine CallP.pure _ rfl _ (pj) ?_ | (refine Idx.lit rfl rfl ?_) | with_reducible first | apply l_ | apply m_ | apply n_ | apply o_ | refine p_ (fun _ => ?_) (fun _ => ?_)) <;> (conv => whnf)))
  all_goals first | exact Ret.eq rfl | (exfalso; omega)
theorem p_asked2 (n : NodeD) (k0 k1 : Prd) (hop : n.Op = 20 ∨ n.Op = 21) (h0 : k0.1.length ≤ 1000) (h1 : k1.1.length ≤ 1000) : Pure Tryd.prog 55 [nV n, kidV [k0, k1]] (slV 4 TokenD.c (atF k0 5 ++ (notT n.Op ++ (markT wLike :: atF k1 5)))) := by
 have pa := p_at k0 5 (by omega)
 have ha := at_len k0 5
 have pb := p_at k1 5 (by omega)
 have hb := at_len k1 5
 have pn := p_joinL [.str wNot] [markT wNot] (by intro p hp; rw [List.mem_singleton] at hp; subst hp; exact ok_small (by decide)) (by decide) rfl (by simp)
 refine pure_of Tryd.func55 (by rfl) rfl (by kernel_rfl) (by rfl) ?_
 rcases hop with g | g
 ·have en : notT n.Op = [] := by unfold notT; rw [if_neg (by omega)]
  rw [en]
  have pj := p_joinL [.toks (atF k0 5), .toks [], .str wLike, .toks (atF k1 5)] (atF k0 5 ++ ([] ++ (markT wLike :: atF k1 5))) (by intro p hp; simp only [List.mem_cons, List.not_mem_nil, or_false] at hp; rcases hp with rfl | rfl | rfl | rfl <;> first | trivial | exact ok_small (by decide)) (by simp) (by simp [joinF_cons, joinF_nil, JPart.l]) (by simp; omega)
  ((conv => whnf); repeat' ((first | (with_reducible first | apply a_ | apply b_ | apply c_) | ((with_reducible first | apply d_ | apply e_ | apply f_ | apply g_); focus first | omega | (simp only [q_] <;> omega)) | ((with_reducible first | apply i_ | apply h_); focus first | omega | (simp only [q_] <;> omega)) | ((with_reducible apply h_); focus first | decide | kernel_rfl) | refine BCase.t (by decide) ?_ | refine BCase.f (by decide) ?_ | refine CallP.pure _ rfl _ (pa) ?_ | refine CallP.pure _ rfl _ (pb) ?_ | refine CallP.pure _ rfl _ (pn) ?_ | refine CallP.pure _ rfl _ (pj) ?_ | (refine Idx.lit rfl rfl ?_) | with_reducible first | apply l_ | apply m_ | apply n_ | apply o_ | refine p_ (fun _ => ?_) (fun _ => ?_)) <;> (conv => whnf)))
  all_goals first | exact Ret.eq rfl | (exfalso; omega)
 ·have en : notT n.Op = [markT wNot] := by unfold notT; rw [if_pos (by omega)]
  rw [en]
  have pj := p_joinL [.toks (atF k0 5), .toks [markT wNot], .str wLike, .toks (atF k1 5)] (atF k0 5 ++ ([markT wNot] ++ (markT wLike :: atF k1 5))) (by intro p hp; simp only [List.mem_cons, List.not_mem_nil, or_false] at hp; rcases hp with rfl | rfl | rfl | rfl <;> first | trivial | exact ok_small (by decide)) (by simp) (by simp [joinF_cons, joinF_nil, JPart.l]) (by simp; omega)
  ((conv => whnf); repeat' ((first | (with_reducible first | apply a_ | apply b_ | apply c_) | ((with_reducible first | apply d_ | apply e_ | apply f_ | apply g_); focus first | omega | (simp only [q_] <;> omega)) | ((with_reducible first | apply i_ | apply h_); focus first | omega | (simp only [q_] <;> omega)) | ((with_reducible apply h_); focus first | decide | kernel_rfl) | refine BCase.t (by decide) ?_ | refine BCase.f (by decide) ?_ | refine CallP.pure _ rfl _ (pa) ?_ | refine CallP.pure _ rfl _ (pb) ?_ | refine CallP.pure _ rfl _ (pn) ?_ | refine CallP.pure _ rfl _ (pj) ?_ | (refine Idx.lit rfl rfl ?_) | with_reducible first | apply l_ | apply m_ | apply n_ | apply o_ | refine p_ (fun _ => ?_) (fun _ => ?_)) <;> (conv => whnf)))
  all_goals first | exact Ret.eq rfl | (exfalso; omega)
theorem sgn_len (op : Int) : (sgn op).length ≤ 3 := by
 by_cases h : 3 ≤ op ∧ op ≤ 17
 ·have : op = 3 ∨ op = 4 ∨ op = 5 ∨ op = 6 ∨ op = 7 ∨ op = 8 ∨ op = 9 ∨ op = 10 ∨ op = 11 ∨ op = 12 ∨ op = 13 ∨ op = 14 ∨ op = 15 ∨ op = 16 ∨ op = 17 := by omega
  rcases this with rfl | rfl | rfl | rfl | rfl | rfl | rfl | rfl | rfl | rfl | rfl | rfl | rfl | rfl | rfl <;> decide
 ·have e : sgn op = [] := by
   unfold sgn
   rw [if_neg (by omega), if_neg (by omega), if_neg (by omega), if_neg (by omega), if_neg (by omega), if_neg (by omega), if_neg (by omega), if_neg (by omega), if_neg (by omega), if_neg (by omega), if_neg (by omega), if_neg (by omega), if_neg (by omega), if_neg (by omega)]
  rw [e]; decide
theorem p_asked4 (n : NodeD) (k0 k1 : Prd) (hop : 10 ≤ n.Op ∧ n.Op ≤ 15) (h0 : k0.1.length ≤ 1000) (h1 : k1.1.length ≤ 1000) : Pure Tryd.prog 55 [nV n, kidV [k0, k1]] (slV 4 TokenD.c (atF k0 5 ++ (markT (sgn n.Op) :: atF k1 5))) := by
 have pa := p_at k0 5 (by omega)
 have ha := at_len k0 5
 have pb := p_at k1 5 (by omega)
 have hb := at_len k1 5
 have ps := p_sign n.Op
 have hs := sgn_len n.Op
 have pj := p_joinL [.toks (atF k0 5), .str (sgn n.Op), .toks (atF k1 5)] (atF k0 5 ++ (markT (sgn n.Op) :: atF k1 5)) (by intro p hp; simp only [List.mem_cons, List.not_mem_nil, or_false] at hp; rcases hp with rfl | rfl | rfl <;> first | trivial | exact ok_small (by omega)) (by simp) (by simp [joinF_cons, joinF_nil, JPart.l]) (by simp; omega)
 refine pure_of Tryd.func55 (by rfl) rfl (by kernel_rfl) (by rfl) ?_
 ((conv => whnf); repeat' ((first | (with_reducible first | apply a_ | apply b_ | apply c_) | ((with_reducible first | apply d_ | apply e_ | apply f_ | apply g_); focus first | omega | (simp only [q_] <;> omega)) | ((with_reducible first | apply i_ | apply h_); focus first | omega | (simp only [q_] <;> omega)) | ((with_reducible apply h_); focus first | decide | kernel_rfl) | refine BCase.t (by decide) ?_ | refine BCase.f (by decide) ?_ | refine CallP.pure _ rfl _ (pa) ?_ | refine CallP.pure _ rfl _ (pb) ?_ | refine CallP.pure _ rfl _ (ps) ?_ | refine CallP.pure _ rfl _ (pj) ?_ | (refine Idx.lit rfl rfl ?_) | with_reducible first | apply l_ | apply m_ | apply n_ | apply o_ | refine p_ (fun _ => ?_) (fun _ => ?_)) <;> (conv => whnf)))
 all_goals first | exact Ret.eq rfl | (exfalso; omega)
theorem p_asked3 (n : NodeD) (k0 k1 k2 : Prd) (hop : n.Op = 24 ∨ n.Op = 25) (h0 : k0.1.length ≤ 1000) (h1 : k1.1.length ≤ 1000) (h2 : k2.1.length ≤ 1000) : Pure Tryd.prog 55 [nV n, kidV [k0, k1, k2]] (slV 4 TokenD.c (atF k0 5 ++ (notT n.Op ++ (markT wBetw :: (atF k1 5 ++ (markT wAnd :: atF k2 5)))))) := by
 have pa := p_at k0 5 (by omega)
 have ha := at_len k0 5
 have pb := p_at k1 5 (by omega)
 have hb := at_len k1 5
 have pc := p_at k2 5 (by omega)
 have hc := at_len k2 5
 have pn := p_joinL [.str wNot] [markT wNot] (by intro p hp; rw [List.mem_singleton] at hp; subst hp; exact ok_small (by decide)) (by decide) rfl (by simp)
 refine pure_of Tryd.func55 (by rfl) rfl (by kernel_rfl) (by rfl) ?_
 rcases hop with g | g
 ·have en : notT n.Op = [] := by unfold notT; rw [if_neg (by omega)]
  rw [en]
  have pj := p_joinL [.toks (atF k0 5), .toks [], .str wBetw, .toks (atF k1 5), .str wAnd, .toks (atF k2 5)] (atF k0 5 ++ ([] ++ (markT wBetw :: (atF k1 5 ++ (markT wAnd :: atF k2 5))))) (by intro p hp; simp only [List.mem_cons, List.not_mem_nil, or_false] at hp; rcases hp with rfl | rfl | rfl | rfl | rfl | rfl <;> first | trivial | exact ok_small (by decide)) (by simp) (by simp [joinF_cons, joinF_nil, JPart.l]) (by simp; omega)
  ((conv => whnf); repeat' ((first | (with_reducible first | apply a_ | apply b_ | apply c_) | ((with_reducible first | apply d_ | apply e_ | apply f_ | apply g_); focus first | omega | (simp only [q_] <;> omega)) | ((with_reducible first | apply i_ | apply h_); focus first | omega | (simp only [q_] <;> omega)) | ((with_reducible apply h_); focus first | decide | kernel_rfl) | refine BCase.t (by decide) ?_ | refine BCase.f (by decide) ?_ | refine CallP.pure _ rfl _ (pa) ?_ | refine CallP.pure _ rfl _ (pb) ?_ | refine CallP.pure _ rfl _ (pc) ?_ | refine CallP.pure _ rfl _ (pn) ?_ | refine CallP.pure _ rfl _ (pj) ?_ | (refine Idx.lit rfl rfl ?_) | with_reducible first | apply l_ | apply m_ | apply n_ | apply o_ | refine p_ (fun _ => ?_) (fun _ => ?_)) <;> (conv => whnf)))
  all_goals first | exact Ret.eq rfl | (exfalso; omega)
 ·have en : notT n.Op = [markT wNot] := by unfold notT; rw [if_pos (by omega)]
  rw [en]
  have pj := p_joinL [.toks (atF k0 5), .toks [markT wNot], .str wBetw, .toks (atF k1 5), .str wAnd, .toks (atF k2 5)] (atF k0 5 ++ ([markT wNot] ++ (markT wBetw :: (atF k1 5 ++ (markT wAnd :: atF k2 5))))) (by intro p hp; simp only [List.mem_cons, List.not_mem_nil, or_false] at hp; rcases hp with rfl | rfl | rfl | rfl | rfl | rfl <;> first | trivial | exact ok_small (by decide)) (by simp) (by simp [joinF_cons, joinF_nil, JPart.l]) (by simp; omega)
  ((conv => whnf); repeat' ((first | (with_reducible first | apply a_ | apply b_ | apply c_) | ((with_reducible first | apply d_ | apply e_ | apply f_ | apply g_); focus first | omega | (simp only [q_] <;> omega)) | ((with_reducible first | apply i_ | apply h_); focus first | omega | (simp only [q_] <;> omega)) | ((with_reducible apply h_); focus first | decide | kernel_rfl) | refine BCase.t (by decide) ?_ | refine BCase.f (by decide) ?_ | refine CallP.pure _ rfl _ (pa) ?_ | refine CallP.pure _ rfl _ (pb) ?_ | refine CallP.pure _ rfl _ (pc) ?_ | refine CallP.pure _ rfl _ (pn) ?_ | refine CallP.pure _ rfl _ (pj) ?_ | (refine Idx.lit rfl rfl ?_) | with_reducible first | apply l_ | apply m_ | apply n_ | apply o_ | refine p_ (fun _ => ?_) (fun _ => ?_)) <;> (conv => whnf)))
  all_goals first | exact Ret.eq rfl | (exfalso; omega)
def comT (ks : List Prd) : List TokenD := ks.flatMap fun k => markT sCo :: k.1
theorem comT_snoc {ks : List Prd} {j : Nat} (h : j < ks.length) : comT (ks.take (j + 1)) = comT (ks.take j) ++ (markT sCo :: (ks[j]).1) := by
 unfold comT
 rw [← List.take_append_getElem h, List.flatMap_append]
 simp
theorem comT_le : ∀ (ks : List Prd), (∀ k ∈ ks, k.1.length ≤ 1000) → (comT ks).length ≤ ks.length * 1001
 | [], _ => Nat.le_refl _
 | k :: ks, h => by
  have h1 := h k List.mem_cons_self
  have h2 := comT_le ks fun x hx => h x (List.mem_cons_of_mem _ hx)
  show (markT sCo :: k.1 ++ comT ks).length ≤ _
  rw [List.length_append, List.length_cons, List.length_cons]; omega
theorem p_asked_in (n : NodeD) (k0 k1 : Prd) (ks : List Prd) (hop : n.Op = 22 ∨ n.Op = 23) (h0 : k0.1.length ≤ 1000) (h1 : k1.1.length ≤ 1000) (hks : ks.length ≤ 10) (hk : ∀ k ∈ ks, k.1.length ≤ 1000) :
  Pure Tryd.prog 55 [nV n, kidV (k0 :: k1 :: ks)] (slV 4 TokenD.c (atF k0 5 ++ (notT n.Op ++ (markT wIn :: (markT sLp :: k1.1 ++ comT ks ++ [markT sRp]))))) := by
 have pa := p_at k0 5 (by omega)
 have ha := at_len k0 5
 have pn := p_joinL [.str wNot] [markT wNot] (by intro p hp; rw [List.mem_singleton] at hp; subst hp; exact ok_small (by decide)) (by decide) rfl (by simp)
 have hcl := comT_le ks hk
 obtain ⟨nt, hnt⟩ : ∃ nt, nt = notT n.Op := ⟨_, rfl⟩
 have hntl : nt.length ≤ 1 := by rw [hnt]; unfold notT; split <;> simp
 obtain ⟨x0, hx0⟩ : ∃ x0, x0 = atF k0 5 ++ (nt ++ (markT wIn :: (markT sLp :: k1.1))) := ⟨_, rfl⟩
 have hx0l : x0.length ≤ 2100 := by rw [hx0]; simp; omega
 have ex : atF k0 5 ++ (nt ++ (markT wIn :: (markT sLp :: k1.1 ++ comT ks ++ [markT sRp]))) = x0 ++ comT ks ++ [markT sRp] := by rw [hx0]; simp
 have pj := p_joinL [.toks (atF k0 5), .toks nt, .str wIn, .str sLp, .toks k1.1] x0 (by intro p hp; simp only [List.mem_cons, List.not_mem_nil, or_false] at hp; rcases hp with rfl | rfl | rfl | rfl | rfl <;> first | trivial | exact ok_small (by decide)) (by simp) (by rw [hx0]; simp [joinF_cons, joinF_nil, JPart.l]) (by omega)
 have pe := p_joinL [.toks (x0 ++ comT ks), .str sRp] (x0 ++ comT ks ++ [markT sRp]) (by intro p hp; simp only [List.mem_cons, List.not_mem_nil, or_false] at hp; rcases hp with rfl | rfl <;> first | trivial | exact ok_small (by decide)) (by simp) (by simp [joinF_cons, joinF_nil, JPart.l]) (by simp; omega)
 have hlen : ((k0 :: k1 :: ks).map prC).length = ks.length + 2 := by simp
 have hls : (ks.map prC).length = ks.length := List.length_map _
 rw [← hnt, ex]
 refine pure_of Tryd.func55 (by rfl) rfl (by kernel_rfl) (by rfl) ?_
 rcases hop with g | g
 ·have en : nt = [] := by rw [hnt]; unfold notT; rw [if_neg (by omega)]
  rw [en] at pj
  ((conv => whnf); repeat' ((first | (with_reducible first | apply a_ | apply b_ | apply c_) | ((with_reducible first | apply d_ | apply e_ | apply f_ | apply g_); focus first | omega | (simp only [q_] <;> omega)) | ((with_reducible first | apply i_ | apply h_); focus first | omega | (simp only [q_] <;> omega)) | ((with_reducible apply h_); focus first | decide | kernel_rfl) | refine BCase.t (by decide) ?_ | refine BCase.f (by decide) ?_ | refine CallP.pure _ rfl _ (pa) ?_ | refine CallP.pure _ rfl _ (pn) ?_ | refine CallP.pure _ rfl _ (pj) ?_ | (refine Idx.lit rfl rfl ?_) | with_reducible first | apply l_ | apply m_ | apply n_ | apply o_ | refine p_ (fun _ => ?_) (fun _ => ?_)) <;> (conv => whnf)))
  refine LoopC.mk Nat (fun j => [(7, slV 4 TokenD.c (x0 ++ comT (ks.take j))), (91, kidV ks), (92, pInt .i64 ks.length), (93, pInt .i64 j)]) (fun _ => []) [] (fun j => j ≤ ks.length) (fun j => ks.length - j) 0 (Nat.zero_le _) ?start ?round
  case start =>
   refine ⟨[], rfl, rfl, ⟨?_, ?_, ?_, .inl rfl, trivial⟩, trivial⟩
   ·exact PLe.c (by rw [List.take_zero, show comT [] = [] from rfl, List.append_nil])
   ·exact PLe.c (congrArg (C.sl 2) (cells_drop prC (k0 :: k1 :: ks) 2 rfl (z := 2) rfl))
   ·exact PLe.int (by rw [List.length_take, List.length_drop, hlen]; omega)
  case round =>
   intro j hj
   have hj : j ≤ ks.length := hj
   by_cases q : j < ks.length
   ·have hkj := hk _ (List.getElem_mem q)
    have hct := comT_le (ks.take (j + 1)) fun k h => hk k (List.mem_of_mem_take h)
    have ec := comT_snoc q
    have hcl2 := congrArg List.length ec
    rw [List.length_append] at hcl2
    have htl : (ks.take (j + 1)).length ≤ 10 := by rw [List.length_take]; omega
    have hget : ks[j]? = some ks[j] := List.getElem?_eq_getElem q
    have pr := p_joinL [.toks (x0 ++ comT (ks.take j)), .str sCo, .toks ks[j].1] (x0 ++ comT (ks.take (j + 1))) (by intro p hp; simp only [List.mem_cons, List.not_mem_nil, or_false] at hp; rcases hp with rfl | rfl | rfl <;> first | trivial | exact ok_small (by decide)) (by simp) (by rw [ec]; simp [joinF_cons, joinF_nil, JPart.l]) (by rw [List.length_append]; omega)
    ((conv => whnf); repeat' ((first | (with_reducible first | apply a_ | apply b_ | apply c_) | ((with_reducible first | apply d_ | apply e_ | apply f_ | apply g_); focus first | omega | (simp only [q_] <;> omega)) | ((with_reducible first | apply i_ | apply h_); focus first | omega | (simp only [q_] <;> omega)) | ((with_reducible apply h_); focus first | decide | kernel_rfl) | refine BCase.t (by decide) ?_ | refine BCase.f (by decide) ?_ | refine CallP.pure _ rfl _ (pr) ?_ | (refine Idx.mapV (f := prC) j rfl _ hget ?_) | with_reducible first | apply l_ | apply m_ | apply n_ | apply o_ | refine p_ (fun _ => ?_) (fun _ => ?_)) <;> (conv => whnf)))
    refine ⟨j + 1, q, by show _ < _; omega, [], rfl, rfl, ⟨.inl rfl, .inl rfl, .inl rfl, PLe.int (by omega), trivial⟩, trivial⟩
   ·have e0 : j = ks.length := by omega
    subst e0
    rw [List.take_length]
    ((conv => whnf); repeat' ((first | (with_reducible first | apply a_ | apply b_ | apply c_) | ((with_reducible first | apply d_ | apply e_ | apply f_ | apply g_); focus first | omega | (simp only [q_] <;> omega)) | ((with_reducible first | apply i_ | apply h_); focus first | omega | (simp only [q_] <;> omega)) | ((with_reducible apply h_); focus first | decide | kernel_rfl) | refine BCase.t (by decide) ?_ | refine BCase.f (by decide) ?_ | refine CallP.pure _ rfl _ (pe) ?_ | with_reducible first | apply l_ | apply m_ | apply n_ | apply o_ | refine p_ (fun _ => ?_) (fun _ => ?_)) <;> (conv => whnf)))
    exact Ret.eq rfl
 ·have en : nt = [markT wNot] := by rw [hnt]; unfold notT; rw [if_pos (by omega)]
  rw [en] at pj
  ((conv => whnf); repeat' ((first | (with_reducible first | apply a_ | apply b_ | apply c_) | ((with_reducible first | apply d_ | apply e_ | apply f_ | apply g_); focus first | omega | (simp only [q_] <;> omega)) | ((with_reducible first | apply i_ | apply h_); focus first | omega | (simp only [q_] <;> omega)) | ((with_reducible apply h_); focus first | decide | kernel_rfl) | refine BCase.t (by decide) ?_ | refine BCase.f (by decide) ?_ | refine CallP.pure _ rfl _ (pa) ?_ | refine CallP.pure _ rfl _ (pn) ?_ | refine CallP.pure _ rfl _ (pj) ?_ | (refine Idx.lit rfl rfl ?_) | with_reducible first | apply l_ | apply m_ | apply n_ | apply o_ | refine p_ (fun _ => ?_) (fun _ => ?_)) <;> (conv => whnf)))
  refine LoopC.mk Nat (fun j => [(7, slV 4 TokenD.c (x0 ++ comT (ks.take j))), (91, kidV ks), (92, pInt .i64 ks.length), (93, pInt .i64 j)]) (fun _ => []) [] (fun j => j ≤ ks.length) (fun j => ks.length - j) 0 (Nat.zero_le _) ?start ?round
  case start =>
   refine ⟨[], rfl, rfl, ⟨?_, ?_, ?_, .inl rfl, trivial⟩, trivial⟩
   ·exact PLe.c (by rw [List.take_zero, show comT [] = [] from rfl, List.append_nil])
   ·exact PLe.c (congrArg (C.sl 2) (cells_drop prC (k0 :: k1 :: ks) 2 rfl (z := 2) rfl))
   ·exact PLe.int (by rw [List.length_take, List.length_drop, hlen]; omega)
  case round =>
   intro j hj
   have hj : j ≤ ks.length := hj
   by_cases q : j < ks.length
   ·have hkj := hk _ (List.getElem_mem q)
    have hct := comT_le (ks.take (j + 1)) fun k h => hk k (List.mem_of_mem_take h)
    have ec := comT_snoc q
    have hcl2 := congrArg List.length ec
    rw [List.length_append] at hcl2
    have htl : (ks.take (j + 1)).length ≤ 10 := by rw [List.length_take]; omega
    have hget : ks[j]? = some ks[j] := List.getElem?_eq_getElem q
    have pr := p_joinL [.toks (x0 ++ comT (ks.take j)), .str sCo, .toks ks[j].1] (x0 ++ comT (ks.take (j + 1))) (by intro p hp; simp only [List.mem_cons, List.not_mem_nil, or_false] at hp; rcases hp with rfl | rfl | rfl <;> first | trivial | exact ok_small (by decide)) (by simp) (by rw [ec]; simp [joinF_cons, joinF_nil, JPart.l]) (by rw [List.length_append]; omega)
    ((conv => whnf); repeat' ((first | (with_reducible first | apply a_ | apply b_ | apply c_) | ((with_reducible first | apply d_ | apply e_ | apply f_ | apply g_); focus first | omega | (simp only [q_] <;> omega)) | ((with_reducible first | apply i_ | apply h_); focus first | omega | (simp only [q_] <;> omega)) | ((with_reducible apply h_); focus first | decide | kernel_rfl) | refine BCase.t (by decide) ?_ | refine BCase.f (by decide) ?_ | refine CallP.pure _ rfl _ (pr) ?_ | (refine Idx.mapV (f := prC) j rfl _ hget ?_) | with_reducible first | apply l_ | apply m_ | apply n_ | apply o_ | refine p_ (fun _ => ?_) (fun _ => ?_)) <;> (conv => whnf)))
    refine ⟨j + 1, q, by show _ < _; omega, [], rfl, rfl, ⟨.inl rfl, .inl rfl, .inl rfl, PLe.int (by omega), trivial⟩, trivial⟩
   ·have e0 : j = ks.length := by omega
    subst e0
    rw [List.take_length]
    ((conv => whnf); repeat' ((first | (with_reducible first | apply a_ | apply b_ | apply c_) | ((with_reducible first | apply d_ | apply e_ | apply f_ | apply g_); focus first | omega | (simp only [q_] <;> omega)) | ((with_reducible first | apply i_ | apply h_); focus first | omega | (simp only [q_] <;> omega)) | ((with_reducible apply h_); focus first | decide | kernel_rfl) | refine BCase.t (by decide) ?_ | refine BCase.f (by decide) ?_ | refine CallP.pure _ rfl _ (pe) ?_ | with_reducible first | apply l_ | apply m_ | apply n_ | apply o_ | refine p_ (fun _ => ?_) (fun _ => ?_)) <;> (conv => whnf)))
    exact Ret.eq rfl
end Go.Proofs.YtmcmagfondjopaaDoor.Pm
end
section
namespace Go.Proofs.YtmcmagfondjopaaDoor.Pm
open Go.RowKit K
set_option linter.unusedVariables false
set_option linter.unusedSimpArgs false
set_option maxRecDepth 100000
def tokN (n : NodeD) (ks : List Prd) : List TokenD :=
 if n.Op = 1 then [litT n.V] else if n.Op = 2 then [markT n.Name] else
 match ks with
 | [a] => if n.Op = 3 then markT sMi :: atF a 7 else if n.Op = 4 then markT wNot :: atF a 3 else atF a 5 ++ (markT wIs :: (notT n.Op ++ [markT wNull]))
 | a :: b :: ks => if n.Op = 22 ∨ n.Op = 23 then atF a 5 ++ (notT n.Op ++ (markT wIn :: (markT sLp :: b.1 ++ comT ks ++ [markT sRp]))) else
  match ks with
  | [] => if n.Op = 20 ∨ n.Op = 21 then atF a 5 ++ (notT n.Op ++ (markT wLike :: atF b 5)) else if 10 ≤ n.Op ∧ n.Op ≤ 15 then atF a 5 ++ (markT (sgn n.Op) :: atF b 5) else atF a (lvlF n.Op) ++ (markT (sgn n.Op) :: atF b (lvlF n.Op + 1))
  | c :: _ => atF a 5 ++ (notT n.Op ++ (markT wBetw :: (atF b 5 ++ (markT wAnd :: atF c 5))))
 | [] => []
def prtN (n : NodeD) (ks : List Prd) : Prd := (tokN n ks, lvlF n.Op)
def opKids (n : NodeD) (k : Nat) : Prop :=
 ((n.Op = 1 ∨ n.Op = 2) ∧ k = 0) ∨ ((n.Op = 3 ∨ n.Op = 4 ∨ n.Op = 18 ∨ n.Op = 19) ∧ k = 1) ∨ ((5 ≤ n.Op ∧ n.Op ≤ 17 ∨ n.Op = 20 ∨ n.Op = 21) ∧ k = 2) ∨ ((n.Op = 24 ∨ n.Op = 25) ∧ k = 3) ∨ ((n.Op = 22 ∨ n.Op = 23) ∧ 2 ≤ k ∧ k ≤ 7)
theorem len_two {α : Type} : ∀ {l : List α}, l.length = 2 → ∃ a b, l = [a, b]
 | [a, b], _ => ⟨a, b, rfl⟩
 | [], h => by simp at h
 | [_], h => by simp at h
 | _ :: _ :: _ :: _, h => by simp at h
theorem len_three {α : Type} : ∀ {l : List α}, l.length = 3 → ∃ a b c, l = [a, b, c]
 | [a, b, c], _ => ⟨a, b, c, rfl⟩
 | [], h => by simp at h
 | [_], h => by simp at h
 | [_, _], h => by simp at h
 | _ :: _ :: _ :: _ :: _, h => by simp at h
theorem p_print (n : NodeD) (ks : List Prd) (hk : opKids n ks.length) (hn : okText n.Name) (hl : ∀ k ∈ ks, k.1.length ≤ 1000) : Pure Tryd.prog 36 [nV n, kidV ks] (.tup [prV (prtN n ks), pInt .i64 0]) := by
 obtain ⟨op, kids, v, nm⟩ := n
 unfold prtN tokN
 dsimp only at hn ⊢
 rcases hk with ⟨h, k0⟩ | ⟨h, k1⟩ | ⟨h, k2⟩ | ⟨h, k3⟩ | ⟨h, k4⟩
 ·have h : op = 1 ∨ op = 2 := h
  rcases h with rfl | rfl
  ·have pl := p_level 1
   have plit := p_literal v
   have pj := p_joinL [.tok (litT v)] [litT v] (by intro p hp; rw [List.mem_singleton] at hp; subst hp; trivial) (by simp) rfl (by simp)
   refine pure_of Tryd.func36 (by rfl) rfl (by kernel_rfl) (by rfl) ?_
   ((conv => whnf); repeat' ((first | (with_reducible first | apply a_ | apply b_ | apply c_) | ((with_reducible first | apply d_ | apply e_ | apply f_ | apply g_); focus first | omega | (simp only [q_] <;> omega)) | ((with_reducible first | apply i_ | apply h_); focus first | omega | (simp only [q_] <;> omega)) | ((with_reducible apply h_); focus first | decide | kernel_rfl) | refine BCase.t (by decide) ?_ | refine BCase.f (by decide) ?_ | refine CallP.pure _ rfl _ (pl) ?_ | refine CallP.pure _ rfl _ (plit) ?_ | refine CallP.pure _ rfl _ (pj) ?_ | with_reducible first | apply l_ | apply m_ | apply n_ | apply o_ | refine p_ (fun _ => ?_) (fun _ => ?_)) <;> (conv => whnf)))
   exact Ret.eq rfl
  ·have pl := p_level 2
   have pj := p_joinL [.str nm] [markT nm] (by intro p hp; rw [List.mem_singleton] at hp; subst hp; exact hn) (by simp) rfl (by simp)
   refine pure_of Tryd.func36 (by rfl) rfl (by kernel_rfl) (by rfl) ?_
   ((conv => whnf); repeat' ((first | (with_reducible first | apply a_ | apply b_ | apply c_) | ((with_reducible first | apply d_ | apply e_ | apply f_ | apply g_); focus first | omega | (simp only [q_] <;> omega)) | ((with_reducible first | apply i_ | apply h_); focus first | omega | (simp only [q_] <;> omega)) | ((with_reducible apply h_); focus first | decide | kernel_rfl) | refine BCase.t (by decide) ?_ | refine BCase.f (by decide) ?_ | refine CallP.pure _ rfl _ (pl) ?_ | refine CallP.pure _ rfl _ (pj) ?_ | with_reducible first | apply l_ | apply m_ | apply n_ | apply o_ | refine p_ (fun _ => ?_) (fun _ => ?_)) <;> (conv => whnf)))
   exact Ret.eq rfl
 ·obtain ⟨a, rfl⟩ := List.length_eq_one_iff.1 k1
  have ha := hl a List.mem_cons_self
  have h : op = 3 ∨ op = 4 ∨ op = 18 ∨ op = 19 := h
  rcases h with rfl | rfl | rfl | rfl
  ·have pl := p_level 3
   have ps := p_sign 3
   have pa := p_at a 7 (by omega)
   have la := at_len a 7
   have pj := p_joinL [.str sMi, .toks (atF a 7)] (markT sMi :: atF a 7) (by intro p hp; simp only [List.mem_cons, List.not_mem_nil, or_false] at hp; rcases hp with rfl | rfl <;> first | trivial | exact ok_small (by decide)) (by simp) (by simp [joinF_cons, joinF_nil, JPart.l]) (by simp; omega)
   refine pure_of Tryd.func36 (by rfl) rfl (by kernel_rfl) (by rfl) ?_
   ((conv => whnf); repeat' ((first | (with_reducible first | apply a_ | apply b_ | apply c_) | ((with_reducible first | apply d_ | apply e_ | apply f_ | apply g_); focus first | omega | (simp only [q_] <;> omega)) | ((with_reducible first | apply i_ | apply h_); focus first | omega | (simp only [q_] <;> omega)) | ((with_reducible apply h_); focus first | decide | kernel_rfl) | refine BCase.t (by decide) ?_ | refine BCase.f (by decide) ?_ | refine CallP.pure _ rfl _ (pl) ?_ | refine CallP.pure _ rfl _ (ps) ?_ | refine CallP.pure _ rfl _ (pa) ?_ | refine CallP.pure _ rfl _ (pj) ?_ | (refine Idx.lit rfl rfl ?_) | with_reducible first | apply l_ | apply m_ | apply n_ | apply o_ | refine p_ (fun _ => ?_) (fun _ => ?_)) <;> (conv => whnf)))
   exact Ret.eq rfl
  ·have pl := p_level 4
   have ps := p_sign 4
   have pa := p_at a 3 (by omega)
   have la := at_len a 3
   have pj := p_joinL [.str wNot, .toks (atF a 3)] (markT wNot :: atF a 3) (by intro p hp; simp only [List.mem_cons, List.not_mem_nil, or_false] at hp; rcases hp with rfl | rfl <;> first | trivial | exact ok_small (by decide)) (by simp) (by simp [joinF_cons, joinF_nil, JPart.l]) (by simp; omega)
   refine pure_of Tryd.func36 (by rfl) rfl (by kernel_rfl) (by rfl) ?_
   ((conv => whnf); repeat' ((first | (with_reducible first | apply a_ | apply b_ | apply c_) | ((with_reducible first | apply d_ | apply e_ | apply f_ | apply g_); focus first | omega | (simp only [q_] <;> omega)) | ((with_reducible first | apply i_ | apply h_); focus first | omega | (simp only [q_] <;> omega)) | ((with_reducible apply h_); focus first | decide | kernel_rfl) | refine BCase.t (by decide) ?_ | refine BCase.f (by decide) ?_ | refine CallP.pure _ rfl _ (pl) ?_ | refine CallP.pure _ rfl _ (ps) ?_ | refine CallP.pure _ rfl _ (pa) ?_ | refine CallP.pure _ rfl _ (pj) ?_ | (refine Idx.lit rfl rfl ?_) | with_reducible first | apply l_ | apply m_ | apply n_ | apply o_ | refine p_ (fun _ => ?_) (fun _ => ?_)) <;> (conv => whnf)))
   exact Ret.eq rfl
  all_goals
   have pl := p_level 18
   have pl' := p_level 19
   have pq := p_asked1 ⟨18, kids, v, nm⟩ a (.inl rfl) ha
   have pq' := p_asked1 ⟨19, kids, v, nm⟩ a (.inr rfl) ha
   refine pure_of Tryd.func36 (by rfl) rfl (by kernel_rfl) (by rfl) ?_
   ((conv => whnf); repeat' ((first | (with_reducible first | apply a_ | apply b_ | apply c_) | ((with_reducible first | apply d_ | apply e_ | apply f_ | apply g_); focus first | omega | (simp only [q_] <;> omega)) | ((with_reducible first | apply i_ | apply h_); focus first | omega | (simp only [q_] <;> omega)) | ((with_reducible apply h_); focus first | decide | kernel_rfl) | refine BCase.t (by decide) ?_ | refine BCase.f (by decide) ?_ | refine CallP.pure _ rfl _ (pl) ?_ | refine CallP.pure _ rfl _ (pl') ?_ | refine CallP.pure _ rfl _ (pq) ?_ | refine CallP.pure _ rfl _ (pq') ?_ | with_reducible first | apply l_ | apply m_ | apply n_ | apply o_ | refine p_ (fun _ => ?_) (fun _ => ?_)) <;> (conv => whnf)))
   exact Ret.eq rfl
 ·obtain ⟨a, b, rfl⟩ := len_two k2
  have ha := hl a List.mem_cons_self
  have hb := hl b (List.mem_cons_of_mem _ List.mem_cons_self)
  have h : 5 ≤ op ∧ op ≤ 17 ∨ op = 20 ∨ op = 21 := h
  by_cases h4 : 10 ≤ op ∧ op ≤ 15
  ·have pq := p_asked4 ⟨op, kids, v, nm⟩ a b h4 ha hb
   have pl := p_level op
   have e4 : lvlF op = 4 := by
    unfold lvlF
    rw [if_neg (by omega), if_neg (by omega), if_neg (by omega), if_neg (by omega), if_neg (by omega), if_neg (by omega), if_neg (by omega)]
   rw [if_neg (by omega), if_neg (by omega)]
   dsimp only
   rw [if_neg (by omega), if_neg (by omega), if_pos h4, e4]
   rw [e4] at pl
   refine pure_of Tryd.func36 (by rfl) rfl (by kernel_rfl) (by rfl) ?_
   ((conv => whnf); repeat' ((first | (with_reducible first | apply a_ | apply b_ | apply c_) | ((with_reducible first | apply d_ | apply e_ | apply f_ | apply g_); focus first | omega | (simp only [q_] <;> omega)) | ((with_reducible first | apply i_ | apply h_); focus first | omega | (simp only [q_] <;> omega)) | ((with_reducible apply h_); focus first | decide | kernel_rfl) | refine BCase.t (by decide) ?_ | refine BCase.f (by decide) ?_ | refine CallP.pure _ rfl _ (pl) ?_ | refine CallP.pure _ rfl _ (pq) ?_ | with_reducible first | apply l_ | apply m_ | apply n_ | apply o_ | refine p_ (fun _ => ?_) (fun _ => ?_)) <;> (conv => whnf)))
   all_goals first | exact Ret.eq rfl | (exfalso; omega)
  by_cases h2 : op = 20 ∨ op = 21
  ·have pq := p_asked2 ⟨op, kids, v, nm⟩ a b h2 ha hb
   have pl := p_level op
   have e4 : lvlF op = 4 := by
    unfold lvlF
    rw [if_neg (by omega), if_neg (by omega), if_neg (by omega), if_neg (by omega), if_neg (by omega), if_neg (by omega), if_neg (by omega)]
   rw [if_neg (by omega), if_neg (by omega)]
   dsimp only
   rw [if_neg (by omega), if_pos h2, e4]
   rw [e4] at pl
   refine pure_of Tryd.func36 (by rfl) rfl (by kernel_rfl) (by rfl) ?_
   ((conv => whnf); repeat' ((first | (with_reducible first | apply a_ | apply b_ | apply c_) | ((with_reducible first | apply d_ | apply e_ | apply f_ | apply g_); focus first | omega | (simp only [q_] <;> omega)) | ((with_reducible first | apply i_ | apply h_); focus first | omega | (simp only [q_] <;> omega)) | ((with_reducible apply h_); focus first | decide | kernel_rfl) | refine BCase.t (by decide) ?_ | refine BCase.f (by decide) ?_ | refine CallP.pure _ rfl _ (pl) ?_ | refine CallP.pure _ rfl _ (pq) ?_ | with_reducible first | apply l_ | apply m_ | apply n_ | apply o_ | refine p_ (fun _ => ?_) (fun _ => ?_)) <;> (conv => whnf)))
   all_goals first | exact Ret.eq rfl | (exfalso; omega)
  have pl := p_level op
  have ps := p_sign op
  have hs := sgn_len op
  have pa := p_at a (lvlF op) (by omega)
  have la := at_len a (lvlF op)
  have pb := p_at b (lvlF op + 1) (by omega)
  have lb := at_len b (lvlF op + 1)
  have pj := p_joinL [.toks (atF a (lvlF op)), .str (sgn op), .toks (atF b (lvlF op + 1))] (atF a (lvlF op) ++ (markT (sgn op) :: atF b (lvlF op + 1))) (by intro p hp; simp only [List.mem_cons, List.not_mem_nil, or_false] at hp; rcases hp with rfl | rfl | rfl <;> first | trivial | exact ok_small (by omega)) (by simp) (by simp [joinF_cons, joinF_nil, JPart.l]) (by simp; omega)
  have hlv : lvlF op = 1 ∨ lvlF op = 2 ∨ lvlF op = 5 ∨ lvlF op = 6 := by
   have : op = 5 ∨ op = 6 ∨ op = 7 ∨ op = 8 ∨ op = 9 ∨ op = 16 ∨ op = 17 := by omega
   rcases this with rfl | rfl | rfl | rfl | rfl | rfl | rfl <;> decide
  rw [if_neg (by omega), if_neg (by omega)]
  dsimp only
  rw [if_neg (by omega), if_neg (by omega), if_neg (by omega)]
  obtain ⟨L, hL⟩ : ∃ L, L = lvlF op := ⟨_, rfl⟩
  rw [← hL] at pl pa pb pj hlv ⊢
  refine pure_of Tryd.func36 (by rfl) rfl (by kernel_rfl) (by rfl) ?_
  ((conv => whnf); repeat' ((first | (with_reducible first | apply a_ | apply b_ | apply c_) | ((with_reducible first | apply d_ | apply e_ | apply f_ | apply g_); focus first | omega | (simp only [q_] <;> omega)) | ((with_reducible first | apply i_ | apply h_); focus first | omega | (simp only [q_] <;> omega)) | ((with_reducible apply h_); focus first | decide | kernel_rfl) | refine BCase.t (by decide) ?_ | refine BCase.f (by decide) ?_ | refine CallP.pure _ rfl _ (pl) ?_ | refine CallP.pure _ rfl _ (ps) ?_ | refine CallP.pure _ rfl _ (pa) ?_ | refine CallP.pure _ rfl _ (pb) ?_ | refine CallP.pure _ rfl _ (pj) ?_ | (refine Idx.lit rfl rfl ?_) | with_reducible first | apply l_ | apply m_ | apply n_ | apply o_ | refine p_ (fun _ => ?_) (fun _ => ?_)) <;> (conv => whnf)))
  all_goals first | exact Ret.eq rfl | (exfalso; omega)
 ·obtain ⟨a, b, c, rfl⟩ := len_three k3
  have h : op = 24 ∨ op = 25 := h
  have pq := p_asked3 ⟨op, kids, v, nm⟩ a b c h (hl a (by simp)) (hl b (by simp)) (hl c (by simp))
  have pl := p_level op
  have e4 : lvlF op = 4 := by
   unfold lvlF
   rw [if_neg (by omega), if_neg (by omega), if_neg (by omega), if_neg (by omega), if_neg (by omega), if_neg (by omega), if_neg (by omega)]
  rw [if_neg (by omega), if_neg (by omega)]
  dsimp only
  rw [if_neg (by omega), e4]
  rw [e4] at pl
  refine pure_of Tryd.func36 (by rfl) rfl (by kernel_rfl) (by rfl) ?_
  ((conv => whnf); repeat' ((first | (with_reducible first | apply a_ | apply b_ | apply c_) | ((with_reducible first | apply d_ | apply e_ | apply f_ | apply g_); focus first | omega | (simp only [q_] <;> omega)) | ((with_reducible first | apply i_ | apply h_); focus first | omega | (simp only [q_] <;> omega)) | ((with_reducible apply h_); focus first | decide | kernel_rfl) | refine BCase.t (by decide) ?_ | refine BCase.f (by decide) ?_ | refine CallP.pure _ rfl _ (pl) ?_ | refine CallP.pure _ rfl _ (pq) ?_ | with_reducible first | apply l_ | apply m_ | apply n_ | apply o_ | refine p_ (fun _ => ?_) (fun _ => ?_)) <;> (conv => whnf)))
  all_goals first | exact Ret.eq rfl | (exfalso; omega)
 ·have h : op = 22 ∨ op = 23 := h
  match ks, k4, hl with
  | a :: b :: ks, k4, hl =>
   have pq := p_asked_in ⟨op, kids, v, nm⟩ a b ks h (hl a (by simp)) (hl b (by simp)) (by simp at k4; omega) (fun k hk => hl k (by simp [hk]))
   have pl := p_level op
   have e4 : lvlF op = 4 := by
    unfold lvlF
    rw [if_neg (by omega), if_neg (by omega), if_neg (by omega), if_neg (by omega), if_neg (by omega), if_neg (by omega), if_neg (by omega)]
   rw [if_neg (by omega), if_neg (by omega)]
   dsimp only
   rw [if_pos h, e4]
   rw [e4] at pl
   refine pure_of Tryd.func36 (by rfl) rfl (by kernel_rfl) (by rfl) ?_
   ((conv => whnf); repeat' ((first | (with_reducible first | apply a_ | apply b_ | apply c_) | ((with_reducible first | apply d_ | apply e_ | apply f_ | apply g_); focus first | omega | (simp only [q_] <;> omega)) | ((with_reducible first | apply i_ | apply h_); focus first | omega | (simp only [q_] <;> omega)) | ((with_reducible apply h_); focus first | decide | kernel_rfl) | refine BCase.t (by decide) ?_ | refine BCase.f (by decide) ?_ | refine CallP.pure _ rfl _ (pl) ?_ | refine CallP.pure _ rfl _ (pq) ?_ | with_reducible first | apply l_ | apply m_ | apply n_ | apply o_ | refine p_ (fun _ => ?_) (fun _ => ?_)) <;> (conv => whnf)))
   all_goals first | exact Ret.eq rfl | (exfalso; omega)
  | [a], k4, _ => simp at k4
  | [], k4, _ => simp at k4
end Go.Proofs.YtmcmagfondjopaaDoor.Pm
end
section
namespace Go.Proofs.YtmcmagfondjopaaDoor.Pm
open Go.RowKit
set_option linter.unusedVariables false
set_option linter.unusedSimpArgs false
theorem pure_sl0 {P : Program} {f : FuncId} {sz : Nat} {post : List PV} {r : PV} (h1 : Pure P f (.d (.c (.v (.slice none 0 0))) :: post) r) (h2 : ∀ a cap, Pure P f (.d (.c (.v (.slice (some a) 0 cap))) :: post) r) : Pure P f (.d (.c (.sl sz [])) :: post) r := by
 refine ⟨h1.1, fun F w vs hG hF hp => ?_⟩
 cases vs with
 | nil => unfold PsRep at hp; exact hp.elim
 | cons u us =>
  unfold PsRep at hp
  obtain ⟨q1, q2⟩ := hp
  unfold PRep DRep CRep at q1
  obtain ⟨a, cap, rfl, _, _, g3, _⟩ := q1
  have mk : ∀ x, Pure P f (.d (.c (.v x)) :: post) r → x.oneCell' = true → .slice a ([] : List (List C)).length cap = x → Calls P f (.slice a ([] : List (List C)).length cap :: us).toArray w fun e w' => ∃ v, e = .returned v ∧ Below w.heap.size w w' ∧ PRep (fun _ => none) (fun b o => F b o ∨ (w.heap.size ≤ b ∧ b < w'.heap.size)) w' r v := by
   rintro x hx h1 rfl
   refine hx.2 F w _ hG hF ?_
   unfold PsRep
   exact ⟨by unfold PRep DRep CRep; exact ⟨rfl, h1⟩, q2⟩
  cases a with
  | none => obtain rfl := g3 rfl; exact mk _ h1 rfl rfl
  | some a => exact mk _ (h2 a cap) rfl rfl
theorem Pure.empty1 {P : Program} {f : FuncId} {k e sz lo : Nat} {r : PV} {rd : Rf} (hp : Pure P f [.d (.c (.sl sz []))] r) : CallS P f [.d (.arr k e sz lo 0)] rd [] r [] := by
 refine ⟨hp.1, fun c vs hc hdf hfr hs hx => ?_⟩
 rw [List.append_nil] at hs hx ⊢
 have hx' : PsRep (fun _ => none) (fz c c.σ0 (hpL rd) c.w0) c.w0 [.d (.c (.sl sz []))] vs := by
  match vs, hx with
  | [u], hx =>
   unfold PsRep at hx ⊢
   refine ⟨?_, by unfold PsRep; trivial⟩
   have h1 := hx.1
   unfold PRep DRep at h1
   have mk : ∀ (a : Option Addr) (cap : Nat), (a = none → cap = 0) → cap ≤ maxLen → u = .slice a 0 cap → PRep (fun _ => none) (fz c c.σ0 (hpL rd) c.w0) c.w0 (.d (.c (.sl sz []))) u := by
    rintro a cap h2 h3 rfl
    unfold PRep DRep CRep
    exact ⟨a, cap, rfl, Nat.zero_le _, h3, h2, .inl rfl⟩
   obtain ⟨_, ⟨m, d1, _, b0, rfl⟩ | ⟨g, m, off, cap, cur, fr, d1, rfl, d3, d4, d5, d6, d7⟩⟩ := h1
   ·exact mk b0 0 (fun _ => rfl) (Nat.zero_le _) rfl
   ·exact mk _ cap (fun e => by cases e) d4 rfl
  | [], hx => unfold PsRep at hx; exact hx.elim
  | _ :: _ :: _, hx => unfold PsRep PsRep at hx; exact hx.2.elim
 refine (hp.2 (fz c c.σ0 (hpL rd) c.w0) c.w0 vs (sw_gl hc hs) (fun b o h => fz_lt hs h) hx').mono ?_
 rintro en w' ⟨v, rfl, hb, hr⟩
 have ev := evo_below hs hb
 refine ⟨v, c.σ0, rfl, sw_below hs hb, PRep.of_none ⟨fun b o' hf => ?_, fun _ _ _ => rfl⟩ _ _ hr⟩
 rcases hf with hf | ⟨f1, f2⟩
 ·exact ev.keeps.le _ _ hf
 ·refine .inr ⟨.inl (Nat.le_trans hs.size f1), f2, fun k n hb' hk' hσ => ?_⟩
  have := (hb_block (hs.hp k hb' hk') hσ).1
  omega
end Go.Proofs.YtmcmagfondjopaaDoor.Pm
end
