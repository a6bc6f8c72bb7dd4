/- disks for the plain machine: what the walks by hand have shown, as contracts -/
import Derived.Test.YtohlkegmmbdlaaaPdList
import Derived.Test.YtohlkegmmbdlaaaDiskOpen
import Derived.Test.YtohlkegmmbdlaaaDiskFacts
import Derived.Test.YtohlkegmmbdlaaaDiskRead
import Derived.Test.YtohlkegmmbdlaaaDiskCrash
namespace Go.Proofs.Ytohlkegmmbdlaaa.Pm
open Go.RowKit K DiskP
set_option linter.unusedVariables false
set_option linter.unusedSimpArgs false
set_option maxRecDepth 100000

abbrev Dk := List ByteArray × List DiskP.Wr
def encW (x : DiskP.Wr) : List C := [.v (.int .i64 x.1), .v (.string x.2)]
abbrev pgsC (p : List ByteArray) : C := .sl 1 (p.map encS)
abbrev wrsC (q : List DiskP.Wr) : C := .sl 2 (q.map encW)
abbrev dkC (x : Dk) : List C := [pgsC x.1, wrsC x.2]
abbrev dkV (x : Dk) : PV := .agg [.c (pgsC x.1), .c (wrsC x.2)]

section
variable {F : Fzn} {w : World}
theorem csRep_one {x : Value} {us : List Value} (h : CsRep F w [.v x] us) : us = [x] := by
  obtain ⟨u, vs, rfl, h1, h2⟩ := csRep_inv h
  unfold CRep at h1
  rw [h1.1, csRep_nil_inv h2]
theorem csRep_strs : ∀ {l : List ByteArray} {us : List Value}, CsRep F w (l.map encS).flatten us → us = l.map Value.string
  | [], us, h => csRep_nil_inv h
  | s :: l, us, h => by
    rw [List.map_cons, List.flatten_cons] at h
    obtain ⟨u, vs, rfl, h1, h2⟩ := csRep_inv h
    unfold CRep at h1
    rw [h1.1, csRep_strs h2]; rfl
theorem csRep_wrs : ∀ {l : List DiskP.Wr} {us : List Value}, CsRep F w (l.map encW).flatten us → us = wrCells l
  | [], us, h => csRep_nil_inv h
  | s :: l, us, h => by
    rw [List.map_cons, List.flatten_cons] at h
    obtain ⟨u, vs, rfl, h1, h2⟩ := csRep_inv h
    obtain ⟨u2, vs2, rfl, h3, h4⟩ := csRep_inv h2
    unfold CRep at h1 h3
    rw [h1.1, h3.1, csRep_wrs h4]; rfl
theorem rep_wrs : ∀ l : List DiskP.Wr, CsRep F w (l.map encW).flatten (wrCells l)
  | [] => by unfold CsRep; trivial
  | s :: l => by
    rw [List.map_cons, List.flatten_cons]
    exact csRep_cons (by unfold CRep; exact ⟨rfl, rfl⟩) (csRep_cons (by unfold CRep; exact ⟨rfl, rfl⟩) (rep_wrs l))
theorem seen_of {rows : List (List C)} {sz : Nat} {u : Value} {vs : List Value} (h : CRep F w (.sl sz rows) u) (hF : ∀ b o, F b o → b < w.heap.size) (hv : ∀ us, CsRep F w rows.flatten us → us = vs) (hl : vs.length = rows.length * sz) (hsz : 0 < sz) : Seen w u rows.length sz vs := by
  unfold CRep at h
  obtain ⟨a, cap, rfl, h2, h3, h4, h5⟩ := h
  refine ⟨hl, a, cap, rfl, h2, h3, h4, ?_⟩
  rcases h5 with h5 | ⟨b, off, rfl, h6⟩
  · subst h5; exact .inl rfl
  · rcases Nat.eq_zero_or_pos rows.length with h0 | h0
    · exact .inl h0
    · right
      obtain ⟨g1, g2⟩ := rowsAt_iff.1 h6
      obtain ⟨us, g3, g4, g5⟩ := csAt_values g2
      obtain rfl := hv us g3
      refine ⟨b, off, rfl, ?_, g4⟩
      have := g5 0 (by rw [flatten_len g1]; exact Nat.mul_pos h0 hsz)
      exact hF _ _ this
theorem seen_strs {l : List ByteArray} {u : Value} (h : CRep F w (pgsC l) u) (hF : ∀ b o, F b o → b < w.heap.size) : Seen w u l.length 1 (l.map Value.string) := by
  have := seen_of h hF (fun us => csRep_strs) (by simp) (by decide)
  rwa [List.length_map] at this
theorem seen_wrs {l : List DiskP.Wr} {u : Value} (h : CRep F w (wrsC l) u) (hF : ∀ b o, F b o → b < w.heap.size) : Seen w u l.length 2 (wrCells l) := by
  have := seen_of h hF (fun us => csRep_wrs) (by rw [wrCells_len, List.length_map]) (by decide)
  rwa [List.length_map] at this
theorem isDisk_of {x : Dk} {u : Value} (h : PRep (fun _ => none) F w (dkV x) u) (hF : ∀ b o, F b o → b < w.heap.size) : IsDisk w u x.1 x.2 := by
  unfold PRep at h
  obtain ⟨xs, rfl, h⟩ := h
  obtain ⟨u1, vs, rfl, h1, h2⟩ := dsRep_inv h
  obtain ⟨u2, vs2, rfl, h3, h4⟩ := dsRep_inv h2
  obtain rfl := dsRep_nil_inv h4
  unfold DRep at h1 h3
  exact ⟨u1, u2, rfl, seen_strs h1 hF, seen_wrs h3 hF⟩
theorem strs_rows (l : List ByteArray) : ∀ r ∈ l.map encS, r.length = 1 := by
  intro r hr
  obtain ⟨x, _, rfl⟩ := List.mem_map.1 hr
  rfl
theorem wrs_rows (l : List DiskP.Wr) : ∀ r ∈ l.map encW, r.length = 2 := by
  intro r hr
  obtain ⟨x, _, rfl⟩ := List.mem_map.1 hr
  rfl
theorem own_strs {B e : Nat} {v : Value} {l : List ByteArray} (h : w.ownsRow B e 1 v l.length (l.map Value.string)) (hF : ∀ b o, B ≤ b → b < w.heap.size → F b o) : CRep F w (pgsC l) v :=
  sl_of_row h (List.length_map ..) (strs_rows l) (rep_texts l) hF
theorem own_wrs {B e : Nat} {v : Value} {l : List DiskP.Wr} (h : w.ownsRow B e 2 v l.length (wrCells l)) (hF : ∀ b o, B ≤ b → b < w.heap.size → F b o) : CRep F w (wrsC l) v :=
  sl_of_row h (List.length_map ..) (wrs_rows l) (rep_wrs l) hF
theorem own_dk {B : Nat} {v : Value} {x : Dk} (h : OwnDisk w B v x.1 x.2) (hF : ∀ b o, B ≤ b → b < w.heap.size → F b o) : PRep (fun _ => none) F w (dkV x) v := by
  obtain ⟨vp, vq, rfl, h1, h2⟩ := h
  unfold PRep
  exact ⟨_, rfl, dsRep_cons (by unfold DRep; exact own_strs h1 hF) (dsRep_cons (by unfold DRep; exact own_wrs h2 hF) dsRep_nil)⟩
theorem ps1 {x : PV} {vs : List Value} (h : PsRep (fun _ => none) F w [x] vs) : ∃ u, vs = [u] ∧ PRep (fun _ => none) F w x u := by
  cases vs with
  | nil => unfold PsRep at h; exact h.elim
  | cons u us =>
    unfold PsRep at h
    cases us with
    | nil => exact ⟨u, rfl, h.1⟩
    | cons _ _ => have := h.2; unfold PsRep at this; exact this.elim
theorem ps2 {x y : PV} {vs : List Value} (h : PsRep (fun _ => none) F w [x, y] vs) : ∃ u v, vs = [u, v] ∧ PRep (fun _ => none) F w x u ∧ PRep (fun _ => none) F w y v := by
  cases vs with
  | nil => unfold PsRep at h; exact h.elim
  | cons u us =>
    unfold PsRep at h
    obtain ⟨v, rfl, h2⟩ := ps1 h.2
    exact ⟨u, v, rfl, h.1, h2⟩
theorem ps3 {x y z : PV} {vs : List Value} (h : PsRep (fun _ => none) F w [x, y, z] vs) : ∃ u v t, vs = [u, v, t] ∧ PRep (fun _ => none) F w x u ∧ PRep (fun _ => none) F w y v ∧ PRep (fun _ => none) F w z t := by
  cases vs with
  | nil => unfold PsRep at h; exact h.elim
  | cons u us =>
    unfold PsRep at h
    obtain ⟨v, t, rfl, h2⟩ := ps2 h.2
    exact ⟨u, v, t, rfl, h.1, h2⟩
theorem ps4 {x y z z' : PV} {vs : List Value} (h : PsRep (fun _ => none) F w [x, y, z, z'] vs) : ∃ u v t s, vs = [u, v, t, s] ∧ PRep (fun _ => none) F w x u ∧ PRep (fun _ => none) F w y v ∧ PRep (fun _ => none) F w z t ∧ PRep (fun _ => none) F w z' s := by
  cases vs with
  | nil => unfold PsRep at h; exact h.elim
  | cons u us =>
    unfold PsRep at h
    obtain ⟨v, t, s, rfl, h2⟩ := ps3 h.2
    exact ⟨u, v, t, s, rfl, h.1, h2⟩
theorem rep_tup2 {a b : PV} {u v : Value} (h1 : PRep (fun _ => none) F w a u) (h2 : PRep (fun _ => none) F w b v) : PRep (fun _ => none) F w (.tup [a, b]) (.tuple #[u, v]) := by
  unfold PRep
  exact ⟨[u, v], rfl, by unfold PsRep; exact ⟨h1, by unfold PsRep; exact ⟨h2, by unfold PsRep; trivial⟩⟩⟩
end
theorem p_dcheck (x : Dk) : Pure Try.prog 39 [dkV x] (pInt .i64 (check x.1 x.2)) := by
  refine ⟨⟨_, Try.func39, by rfl, by rfl⟩, fun F w vs hG hF hp => ?_⟩
  obtain ⟨u, rfl, h1⟩ := ps1 hp
  refine (check_any x.1 x.2 u w (isDisk_of h1 hF)).mono ?_
  rintro e w' ⟨rfl, hb⟩
  exact ⟨_, rfl, hb, rep_int _ _⟩
theorem p_dcheckref (x : Dk) : Pure Try.prog 40 [dkV x] (pInt .i64 (check x.1 x.2)) := by
  refine ⟨⟨_, Try.func40, by rfl, by rfl⟩, fun F w vs hG hF hp => ?_⟩
  obtain ⟨u, rfl, h1⟩ := ps1 hp
  refine (diskcheck_any x.1 x.2 u w (isDisk_of h1 hF)).mono ?_
  rintro e w' ⟨rfl, hb⟩
  exact ⟨_, rfl, hb, rep_int _ _⟩
theorem p_dread (x : Dk) (n : Int) : Pure Try.prog 29 [dkV x, pInt .i64 n] (.tup [pStr (readR x.1 x.2 n).1, pInt .i64 (readR x.1 x.2 n).2]) := by
  refine ⟨⟨_, Try.func29, by rfl, by rfl⟩, fun F w vs hG hF hp => ?_⟩
  obtain ⟨u, v, rfl, h1, h2⟩ := ps2 hp
  rw [rep_v h2]
  refine (read_any x.1 x.2 u n w (isDisk_of h1 hF)).mono ?_
  rintro e w' ⟨rfl, hb⟩
  exact ⟨_, rfl, hb, rep_tup2 (rep_str _) (rep_int _ _)⟩
theorem p_down (x : Dk) (hp : x.1.length ≤ 1000) (hq : x.2.length ≤ 1000) : Pure Try.prog 41 [dkV x] (dkV x) := by
  refine ⟨⟨_, Try.func41, by rfl, by rfl⟩, fun F w vs hG hF hps => ?_⟩
  obtain ⟨u, rfl, h1⟩ := ps1 hps
  refine (own_any x.1 x.2 u w hp hq (isDisk_of h1 hF)).mono ?_
  rintro e w' ⟨v, rfl, ho, hb⟩
  exact ⟨_, rfl, hb, own_dk ho fun b o b1 b2 => .inr ⟨b1, b2⟩⟩
theorem p_dwrite (x : Dk) (n : Int) (s : ByteArray) : Pure Try.prog 62 [dkV x, pInt .i64 n, pStr s] (.tup [dkV (writeP x.1 x.2 n s, writeQ x.1 x.2 n s), pInt .i64 (writeE x.1 x.2 n s)]) := by
  refine ⟨⟨_, Try.func62, by rfl, by rfl⟩, fun F w vs hG hF hps => ?_⟩
  obtain ⟨u, v, t, rfl, h1, h2, h3⟩ := ps3 hps
  rw [rep_v h2, rep_v h3]
  refine (write_any x.1 x.2 u n s w (isDisk_of h1 hF)).mono ?_
  rintro e w' ⟨v, rfl, ho, hb⟩
  exact ⟨_, rfl, hb, rep_tup2 (own_dk ho fun b o b1 b2 => .inr ⟨b1, b2⟩) (rep_int _ _)⟩
theorem p_dsync (x : Dk) : Pure Try.prog 64 [dkV x] (.tup [dkV (settleP x.1 x.2 (fun _ => true), []), pInt .i64 (check x.1 x.2)]) := by
  refine ⟨⟨_, Try.func64, by rfl, by rfl⟩, fun F w vs hG hF hps => ?_⟩
  obtain ⟨u, rfl, h1⟩ := ps1 hps
  refine (sync_any x.1 x.2 u w (isDisk_of h1 hF)).mono ?_
  rintro e w' ⟨v, rfl, ho, hb⟩
  exact ⟨_, rfl, hb, rep_tup2 (own_dk (x := (settleP x.1 x.2 (fun _ => true), [])) ho fun b o b1 b2 => .inr ⟨b1, b2⟩) (rep_int _ _)⟩
theorem p_dcrash (x : Dk) (m : Int) (h0 : 0 ≤ m) (h1 : m ≤ 18446744073709551615) : Pure Try.prog 27 [dkV x, pInt .u64 m] (.tup [dkV (settleP x.1 x.2 (bitAt m), []), pInt .i64 (check x.1 x.2)]) := by
  refine ⟨⟨_, Try.func27, by rfl, by rfl⟩, fun F w vs hG hF hps => ?_⟩
  obtain ⟨u, v, rfl, h1, h2⟩ := ps2 hps
  rw [rep_v h2]
  refine (crash_any x.1 x.2 u m (by assumption) (by assumption) w (isDisk_of h1 hF)).mono ?_
  rintro e w' ⟨v, rfl, ho, hb⟩
  exact ⟨_, rfl, hb, rep_tup2 (own_dk (x := (settleP x.1 x.2 (bitAt m), [])) ho fun b o b1 b2 => .inr ⟨b1, b2⟩) (rep_int _ _)⟩
theorem p_dcrashof (x : Dk) (m : Int) (h0 : 0 ≤ m) (h1 : m ≤ 18446744073709551615) : Pure Try.prog 66 [dkV x, pInt .u64 m] (.tup [dkV (crashP x.1 x.2 m, []), pInt .i64 (check x.1 x.2)]) := by
  refine ⟨⟨_, Try.func66, by rfl, by rfl⟩, fun F w vs hG hF hps => ?_⟩
  obtain ⟨u, v, rfl, h1, h2⟩ := ps2 hps
  rw [rep_v h2]
  refine (crashof_any x.1 x.2 u m (by assumption) (by assumption) w (isDisk_of h1 hF)).mono ?_
  rintro e w' ⟨v, rfl, ho, hb⟩
  exact ⟨_, rfl, hb, rep_tup2 (own_dk (x := (crashP x.1 x.2 m, [])) ho fun b o b1 b2 => .inr ⟨b1, b2⟩) (rep_int _ _)⟩
theorem p_settled (p : List ByteArray) (q : List DiskP.Wr) (m : Int) (h0 : 0 ≤ m) (h1 : m ≤ 18446744073709551615) : Pure Try.prog 25 [.d (.c (pgsC p)), .d (.c (wrsC q)), pInt .u64 m] (.d (.c (pgsC (settled p q m)))) := by
  refine ⟨⟨_, Try.func25, by rfl, by rfl⟩, fun F w vs hG hF hps => ?_⟩
  obtain ⟨u, v, t, rfl, g1, g2, g3⟩ := ps3 hps
  rw [rep_v g3]
  unfold PRep DRep at g1 g2
  refine (settled_any p q u v m h0 h1 w (seen_strs g1 hF) (seen_wrs g2 hF)).mono ?_
  rintro e w' ⟨v, rfl, ho, hb⟩
  exact ⟨_, rfl, hb, by unfold PRep DRep; exact own_strs ho fun b o b1 b2 => .inr ⟨b1, b2⟩⟩
theorem p_pageat (p : List ByteArray) (n : Int) : Pure Try.prog 35 [.d (.c (pgsC p)), pInt .i64 n] (pStr (pageAt p n)) := by
  refine ⟨⟨_, Try.func35, by rfl, by rfl⟩, fun F w vs hG hF hps => ?_⟩
  obtain ⟨u, v, rfl, g1, g2⟩ := ps2 hps
  rw [rep_v g2]
  unfold PRep DRep at g1
  refine (pageat_any p u n w (seen_strs g1 hF)).mono ?_
  rintro e w' ⟨rfl, rfl⟩
  exact ⟨_, rfl, Below.refl _ _, rep_str _⟩
theorem p_lastof (p : List ByteArray) (q : List DiskP.Wr) (m n : Int) (h0 : 0 ≤ m) (h1 : m ≤ 18446744073709551615) : Pure Try.prog 49 [.d (.c (pgsC p)), .d (.c (wrsC q)), pInt .u64 m, pInt .i64 n] (pStr (lastOf (pageAt p n) q m n)) := by
  refine ⟨⟨_, Try.func49, by rfl, by rfl⟩, fun F w vs hG hF hps => ?_⟩
  obtain ⟨u, v, t, s, rfl, g1, g2, g3, g4⟩ := ps4 hps
  rw [rep_v g3, rep_v g4]
  unfold PRep DRep at g1 g2
  refine (lastof_any p q u v m h0 h1 n w (seen_strs g1 hF) (seen_wrs g2 hF)).mono ?_
  rintro e w' ⟨rfl, rfl⟩
  exact ⟨_, rfl, Below.refl _ _, rep_str _⟩
theorem p_samedisk (x y : Dk) : Pure Try.prog 44 [dkV x, dkV y] (pBool (sameD x y)) := by
  refine ⟨⟨_, Try.func44, by rfl, by rfl⟩, fun F w vs hG hF hps => ?_⟩
  obtain ⟨u, v, rfl, g1, g2⟩ := ps2 hps
  refine (samedisk_any x.1 y.1 x.2 y.2 u v w (isDisk_of g1 hF) (isDisk_of g2 hF)).mono ?_
  rintro e w' ⟨rfl, hb⟩
  exact ⟨_, rfl, hb, rep_bool _⟩
end Go.Proofs.Ytohlkegmmbdlaaa.Pm
