/- journal: what is handed in, as stores, writes and ops -/
import Derived.Test.YtohlkegmmbdlaaaPjBegun
namespace Go.Proofs.Ytohlkegmmbdlaaa.Pm
open Go.RowKit K DiskP
set_option linter.unusedVariables false
set_option linter.unusedSimpArgs false
set_option maxRecDepth 100000

structure WriteD where
  No : Int
  Text : List UInt8
def WriteD.c (x : WriteD) : List C := [.v (.int .i64 x.No), .v (.string (tx x.Text))]
def WriteD.ok (x : WriteD) : Prop := okInt x.No ∧ okText x.Text
theorem openC_Write : OpensC Try.prog 56 2 WriteD.c WriteD.ok := by
  refine ⟨by kernel_rfl, by decide, ?_⟩
  intro H enc w spare held fuel cs x h hl
  have ht : Try.prog.underlying 56 = some (.struct (Try.prog.fieldsOf 56)) := by kernel_rfl
  have hlen := struct_len ht h
  rw [show Try.prog.cellsOf 56 = 2 by kernel_rfl] at hlen
  obtain ⟨a0, e0, k0⟩ := field_of ht h hl 0 3 0 1 (by kernel_rfl) (openC_int Try.underlying3 (by kernel_rfl))
  obtain ⟨a1, e1, k1⟩ := field_of ht h hl 1 9 1 1 (by kernel_rfl) (openC_text Try.underlying9 (by kernel_rfl))
  have hall : CsRep (FW w) w (eInt a0 ++ (eText a1 ++ [])) (cs.drop 0) := (cs_field e0 (cs_field e1 (cs_end hlen)))
  rw [List.drop_zero] at hall
  exact ⟨hlen, ⟨a0, a1⟩, hall, ⟨k0, k1⟩⟩
def WriteD.eqB (x y : WriteD) : Bool := (decide (x.No = y.No) && (decide (tx x.Text = tx y.Text) && true))
theorem WriteD.eqB_iff (x y : WriteD) : WriteD.eqB x y = true ↔ x = y := by
  cases x; cases y
  simp [WriteD.eqB, tx_eq]

structure OpD where
  Kind : Int
  No : Int
  Text : List UInt8
def OpD.c (x : OpD) : List C := [.v (.int .i64 x.Kind), .v (.int .i64 x.No), .v (.string (tx x.Text))]
def OpD.ok (x : OpD) : Prop := okInt x.Kind ∧ okInt x.No ∧ okText x.Text
theorem openC_Op : OpensC Try.prog 67 3 OpD.c OpD.ok := by
  refine ⟨by kernel_rfl, by decide, ?_⟩
  intro H enc w spare held fuel cs x h hl
  have ht : Try.prog.underlying 67 = some (.struct (Try.prog.fieldsOf 67)) := by kernel_rfl
  have hlen := struct_len ht h
  rw [show Try.prog.cellsOf 67 = 3 by kernel_rfl] at hlen
  obtain ⟨a0, e0, k0⟩ := field_of ht h hl 0 3 0 1 (by kernel_rfl) (openC_int Try.underlying3 (by kernel_rfl))
  obtain ⟨a1, e1, k1⟩ := field_of ht h hl 1 3 1 1 (by kernel_rfl) (openC_int Try.underlying3 (by kernel_rfl))
  obtain ⟨a2, e2, k2⟩ := field_of ht h hl 2 9 2 1 (by kernel_rfl) (openC_text Try.underlying9 (by kernel_rfl))
  have hall : CsRep (FW w) w (eInt a0 ++ (eInt a1 ++ (eText a2 ++ []))) (cs.drop 0) := (cs_field e0 (cs_field e1 (cs_field e2 (cs_end hlen))))
  rw [List.drop_zero] at hall
  exact ⟨hlen, ⟨a0, a1, a2⟩, hall, ⟨k0, k1, k2⟩⟩
def OpD.eqB (x y : OpD) : Bool := (decide (x.Kind = y.Kind) && (decide (x.No = y.No) && (decide (tx x.Text = tx y.Text) && true)))
theorem OpD.eqB_iff (x y : OpD) : OpD.eqB x y = true ↔ x = y := by
  cases x; cases y
  simp [OpD.eqB, tx_eq]

structure DiskD where
  Pages : List (List UInt8)
  Waiting : List WriteD
def DiskD.c (x : DiskD) : List C := [.sl 1 (x.Pages.map eText), .sl 2 (x.Waiting.map WriteD.c)]
def DiskD.ok (x : DiskD) : Prop := (okSl (Try.prog.bytesOf 9) okText) x.Pages ∧ (okSl (Try.prog.bytesOf 56) WriteD.ok) x.Waiting
theorem openC_Disk : OpensC Try.prog 25 2 DiskD.c DiskD.ok := by
  refine ⟨by kernel_rfl, by decide, ?_⟩
  intro H enc w spare held fuel cs x h hl
  have ht : Try.prog.underlying 25 = some (.struct (Try.prog.fieldsOf 25)) := by kernel_rfl
  have hlen := struct_len ht h
  rw [show Try.prog.cellsOf 25 = 2 by kernel_rfl] at hlen
  obtain ⟨a0, e0, k0⟩ := field_of ht h hl 0 22 0 1 (by kernel_rfl) (openC_slice (sz := 1) (enc := eText) Try.underlying22 (by kernel_rfl) (fun _ => rfl) (openC_text Try.underlying9 (by kernel_rfl)))
  obtain ⟨a1, e1, k1⟩ := field_of ht h hl 1 23 1 1 (by kernel_rfl) (openC_slice (sz := 2) (enc := WriteD.c) Try.underlying23 (by kernel_rfl) (fun _ => rfl) openC_Write)
  have hall : CsRep (FW w) w ((eSl 1 eText) a0 ++ ((eSl 2 WriteD.c) a1 ++ [])) (cs.drop 0) := (cs_field e0 (cs_field e1 (cs_end hlen)))
  rw [List.drop_zero] at hall
  exact ⟨hlen, ⟨a0, a1⟩, hall, ⟨k0, k1⟩⟩

structure StoreD where
  Data : DiskD
  Journal : DiskD
def StoreD.c (x : StoreD) : List C := DiskD.c x.Data ++ DiskD.c x.Journal
def StoreD.ok (x : StoreD) : Prop := DiskD.ok x.Data ∧ DiskD.ok x.Journal
theorem openC_Store : OpensC Try.prog 27 4 StoreD.c StoreD.ok := by
  refine ⟨by kernel_rfl, by decide, ?_⟩
  intro H enc w spare held fuel cs x h hl
  have ht : Try.prog.underlying 27 = some (.struct (Try.prog.fieldsOf 27)) := by kernel_rfl
  have hlen := struct_len ht h
  rw [show Try.prog.cellsOf 27 = 4 by kernel_rfl] at hlen
  obtain ⟨a0, e0, k0⟩ := field_of ht h hl 0 25 0 2 (by kernel_rfl) openC_Disk
  obtain ⟨a1, e1, k1⟩ := field_of ht h hl 1 25 2 2 (by kernel_rfl) openC_Disk
  have hall : CsRep (FW w) w (DiskD.c a0 ++ (DiskD.c a1 ++ [])) (cs.drop 0) := (cs_field e0 (cs_field e1 (cs_end hlen)))
  rw [List.drop_zero] at hall
  exact ⟨hlen, ⟨a0, a1⟩, hall, ⟨k0, k1⟩⟩

def toW (x : WriteD) : DiskP.Wr := (x.No, tx x.Text)
def toO (x : OpD) : Opr := (x.Kind, x.No, tx x.Text)
def toD (x : DiskD) : Dk := (x.Pages.map tx, x.Waiting.map toW)
def toS (x : StoreD) : Str := (toD x.Data, toD x.Journal)
theorem pgs_map (l : List (List UInt8)) : (l.map tx).map encS = l.map eText := by rw [List.map_map]; rfl
theorem wrs_map (l : List WriteD) : (l.map toW).map encW = l.map WriteD.c := by rw [List.map_map]; rfl
theorem ops_map (l : List OpD) : (l.map toO).map encO = l.map OpD.c := by rw [List.map_map]; rfl
theorem store_v (x : StoreD) : PV.agg (x.c.map D.c) = stV (toS x) := by
  show PV.agg [.c (.sl 1 (x.Data.Pages.map eText)), .c (.sl 2 (x.Data.Waiting.map WriteD.c)), .c (.sl 1 (x.Journal.Pages.map eText)), .c (.sl 2 (x.Journal.Waiting.map WriteD.c))] = _
  rw [← pgs_map, ← wrs_map, ← pgs_map, ← wrs_map]; rfl
theorem writes_v (l : List WriteD) : slV 2 WriteD.c l = .d (.c (wrsC (l.map toW))) := by unfold slV wrsC; rw [wrs_map]
theorem ops_v (l : List OpD) : slV 3 OpD.c l = .d (.c (opsC (l.map toO))) := by unfold slV opsC; rw [ops_map]
abbrev hWr (l : List WriteD) : Prop := okSl (Try.prog.bytesOf 56) WriteD.ok l
abbrev hOp (l : List OpD) : Prop := okSl (Try.prog.bytesOf 67) OpD.ok l
theorem hWr_of {l : List WriteD} (h : hWr l) : (l.map toW).length ≤ 140737488355328 ∧ ∀ w ∈ l.map toW, okInt w.1 := by
  obtain ⟨h1, h2⟩ := h
  rw [show Try.prog.bytesOf 56 = 24 by kernel_rfl] at h1
  refine ⟨by rw [List.length_map]; omega, fun w hw => ?_⟩
  obtain ⟨x, hx, rfl⟩ := List.mem_map.1 hw
  exact (h2 x hx).1
theorem hOp_of {l : List OpD} (h : hOp l) : (l.map toO).length ≤ 140737488355328 := by
  obtain ⟨h1, h2⟩ := h
  rw [show Try.prog.bytesOf 67 = 32 by kernel_rfl] at h1
  rw [List.length_map]; omega
theorem hStore_of {x : StoreD} (h : x.ok) : (toS x).1.2.length ≤ 140737488355328 ∧ (toS x).2.2.length ≤ 140737488355328 := ⟨(hWr_of h.1.2).1, (hWr_of h.2.2).1⟩
theorem law_StepsTells (x : StoreD) (hx : x.ok) (y : List WriteD) (hy : hWr y) : Pure Try.prog 3 [.agg (x.c.map D.c), slV 2 WriteD.c y] (pBool true) := by
  obtain ⟨h1, h2⟩ := hStore_of hx
  obtain ⟨h3, h4⟩ := hWr_of hy
  rw [store_v, writes_v]
  generalize toS x = s at *
  generalize y.map toW = l at *
  have p1 := p_steps s l h1 h2 h3 h4
  have p2 := p_stepsof s l h1 h2 h3 h4
  have p3 := p_scheck s
  have p4 := p_scheckref s
  have hlen : (stepsR s l).length ≤ 140737488355328 := by
    unfold stepsR
    split
    · rename_i h
      obtain ⟨_, _, _, _, g, _⟩ := stepsE_ok h
      unfold stepsO dEnts jHot endO
      simp only [List.length_append, jEnts_len, List.length_map, List.length_cons, List.length_nil]
      omega
    · simp
  have p5 := p_sameops (stepsR s l) (stepsR s l) hlen
  rw [listEqB_refl fun x => (opEqB_iff x x).2 rfl] at p5
  refine pure_of Try.func3 (by rfl) rfl (by kernel_rfl) (by rfl) ?_
  (((conv => whnf); repeat ((first | with_reducible refine BCase.tt ?_ | with_reducible refine BCase.ff ?_); (conv => whnf))); repeat' (first | ((first | with_reducible refine Wr.u8 ?_ | ((first | with_reducible refine Wr.ci ?wxs ?_ | with_reducible refine Wr.c3 ?wxs ?_ | with_reducible refine Wr.c6 ?wxs ?_ | with_reducible refine BCase.dt ?wxs ?_); case wxs => (first | omega | (simp only [lens, true_and, and_true]; (try omega); done))) | (with_reducible refine BCase.df ?wxs ?_; case wxs => (first | omega | (simp only [lens, true_and, and_true]; (try omega); done))) | (with_reducible refine Need.mk ?wxs ?_; case wxs => first | (first | omega | (simp only [lens, true_and, and_true]; (try omega); done)) | decide | kernel_rfl) | refine BCase.t (by decide) ?_ | refine BCase.f (by decide) ?_); ((conv => whnf); repeat ((first | with_reducible refine BCase.tt ?_ | with_reducible refine BCase.ff ?_); (conv => whnf)))) | ((refine CallP.pure _ rfl _ (p1) ?_); ((conv => whnf); repeat ((first | with_reducible refine BCase.tt ?_ | with_reducible refine BCase.ff ?_); (conv => whnf)))) | ((refine CallP.pure _ rfl _ (p2) ?_); ((conv => whnf); repeat ((first | with_reducible refine BCase.tt ?_ | with_reducible refine BCase.ff ?_); (conv => whnf)))) | ((refine CallP.pure _ rfl _ (p_jbegun) ?_); ((conv => whnf); repeat ((first | with_reducible refine BCase.tt ?_ | with_reducible refine BCase.ff ?_); (conv => whnf)))) | ((refine CallP.pure _ rfl _ (p3) ?_); ((conv => whnf); repeat ((first | with_reducible refine BCase.tt ?_ | with_reducible refine BCase.ff ?_); (conv => whnf)))) | ((refine CallP.pure _ rfl _ (p4) ?_); ((conv => whnf); repeat ((first | with_reducible refine BCase.tt ?_ | with_reducible refine BCase.ff ?_); (conv => whnf)))) | ((refine CallP.pure _ rfl _ (p5) ?_); ((conv => whnf); repeat ((first | with_reducible refine BCase.tt ?_ | with_reducible refine BCase.ff ?_); (conv => whnf)))) | ((with_reducible refine EmpOr.app ?_); ((conv => whnf); repeat ((first | with_reducible refine BCase.tt ?_ | with_reducible refine BCase.ff ?_); (conv => whnf)))) | (first | with_reducible refine BCase.not ?_ | with_reducible refine BCase.and ?_ | with_reducible refine BCase.or ?_) | ((with_reducible refine BCase.d (fun _ => ?_) (fun _ => ?_)) <;> ((conv => whnf); repeat ((first | with_reducible refine BCase.tt ?_ | with_reducible refine BCase.ff ?_); (conv => whnf))))))
  all_goals exact Ret.bool (by first | rfl | simp)
theorem law_PlayTells (x : StoreD) (hx : x.ok) (y : List OpD) (hy : hOp y) : Pure Try.prog 4 [.agg (x.c.map D.c), slV 3 OpD.c y] (pBool true) := by
  have h3 := hOp_of hy
  rw [store_v, ops_v]
  generalize toS x = s at *
  generalize y.map toO = l at *
  have p1 := p_play s l h3
  have p2 := p_playof s l h3
  have p3 := p_samestore (playR s l).1 (playR s l).1
  rw [sameD_self, sameD_self] at p3
  refine pure_of Try.func4 (by rfl) rfl (by kernel_rfl) (by rfl) ?_
  (((conv => whnf); repeat ((first | with_reducible refine BCase.tt ?_ | with_reducible refine BCase.ff ?_); (conv => whnf))); repeat' (first | ((first | with_reducible refine Wr.u8 ?_ | ((first | with_reducible refine Wr.ci ?wxs ?_ | with_reducible refine Wr.c3 ?wxs ?_ | with_reducible refine Wr.c6 ?wxs ?_ | with_reducible refine BCase.dt ?wxs ?_); case wxs => (first | omega | (simp only [lens, true_and, and_true]; (try omega); done))) | (with_reducible refine BCase.df ?wxs ?_; case wxs => (first | omega | (simp only [lens, true_and, and_true]; (try omega); done))) | (with_reducible refine Need.mk ?wxs ?_; case wxs => first | (first | omega | (simp only [lens, true_and, and_true]; (try omega); done)) | decide | kernel_rfl) | refine BCase.t (by decide) ?_ | refine BCase.f (by decide) ?_); ((conv => whnf); repeat ((first | with_reducible refine BCase.tt ?_ | with_reducible refine BCase.ff ?_); (conv => whnf)))) | ((refine CallP.pure _ rfl _ (p1) ?_); ((conv => whnf); repeat ((first | with_reducible refine BCase.tt ?_ | with_reducible refine BCase.ff ?_); (conv => whnf)))) | ((refine CallP.pure _ rfl _ (p2) ?_); ((conv => whnf); repeat ((first | with_reducible refine BCase.tt ?_ | with_reducible refine BCase.ff ?_); (conv => whnf)))) | ((refine CallP.pure _ rfl _ (p_jbegun) ?_); ((conv => whnf); repeat ((first | with_reducible refine BCase.tt ?_ | with_reducible refine BCase.ff ?_); (conv => whnf)))) | ((refine CallP.pure _ rfl _ (p3) ?_); ((conv => whnf); repeat ((first | with_reducible refine BCase.tt ?_ | with_reducible refine BCase.ff ?_); (conv => whnf)))) | ((with_reducible refine EmpOr.app ?_); ((conv => whnf); repeat ((first | with_reducible refine BCase.tt ?_ | with_reducible refine BCase.ff ?_); (conv => whnf)))) | (first | with_reducible refine BCase.not ?_ | with_reducible refine BCase.and ?_ | with_reducible refine BCase.or ?_) | ((with_reducible refine BCase.d (fun _ => ?_) (fun _ => ?_)) <;> ((conv => whnf); repeat ((first | with_reducible refine BCase.tt ?_ | with_reducible refine BCase.ff ?_); (conv => whnf))))))
  all_goals exact Ret.bool (by first | rfl | simp)
theorem law_UndoTells (x : StoreD) (hx : x.ok) : Pure Try.prog 6 [.agg (x.c.map D.c)] (pBool true) := by
  obtain ⟨h1, h2⟩ := hStore_of hx
  rw [store_v]
  generalize toS x = s at *
  have p1 := p_undo s h1 h2
  have p2 := p_recover s h1 h2
  have p3 := p_undoof s
  have hlen := undoR_len s
  have p4 := p_playof s (undoR s).1 (by omega)
  have p5 := p_sameops (undoR s).1 (undoR s).1 (by omega)
  rw [listEqB_refl fun x => (opEqB_iff x x).2 rfl] at p5
  refine pure_of Try.func6 (by rfl) rfl (by kernel_rfl) (by rfl) ?_
  by_cases h : (undoR s).2 = 0
  · have hr : recoverR s = playR s (undoR s).1 := if_neg (not_not_intro h)
    rw [hr] at p2
    rw [h] at p1 p3
    have p6 := p_samestore (playR s (undoR s).1).1 (playR s (undoR s).1).1
    rw [sameD_self, sameD_self] at p6
    (((conv => whnf); repeat ((first | with_reducible refine BCase.tt ?_ | with_reducible refine BCase.ff ?_); (conv => whnf))); repeat' (first | ((first | with_reducible refine Wr.u8 ?_ | ((first | with_reducible refine Wr.ci ?wxs ?_ | with_reducible refine Wr.c3 ?wxs ?_ | with_reducible refine Wr.c6 ?wxs ?_ | with_reducible refine BCase.dt ?wxs ?_); case wxs => (first | omega | (simp only [lens, true_and, and_true]; (try omega); done))) | (with_reducible refine BCase.df ?wxs ?_; case wxs => (first | omega | (simp only [lens, true_and, and_true]; (try omega); done))) | (with_reducible refine Need.mk ?wxs ?_; case wxs => first | (first | omega | (simp only [lens, true_and, and_true]; (try omega); done)) | decide | kernel_rfl) | refine BCase.t (by decide) ?_ | refine BCase.f (by decide) ?_); ((conv => whnf); repeat ((first | with_reducible refine BCase.tt ?_ | with_reducible refine BCase.ff ?_); (conv => whnf)))) | ((refine CallP.pure _ rfl _ (p1) ?_); ((conv => whnf); repeat ((first | with_reducible refine BCase.tt ?_ | with_reducible refine BCase.ff ?_); (conv => whnf)))) | ((refine CallP.pure _ rfl _ (p2) ?_); ((conv => whnf); repeat ((first | with_reducible refine BCase.tt ?_ | with_reducible refine BCase.ff ?_); (conv => whnf)))) | ((refine CallP.pure _ rfl _ (p3) ?_); ((conv => whnf); repeat ((first | with_reducible refine BCase.tt ?_ | with_reducible refine BCase.ff ?_); (conv => whnf)))) | ((refine CallP.pure _ rfl _ (p4) ?_); ((conv => whnf); repeat ((first | with_reducible refine BCase.tt ?_ | with_reducible refine BCase.ff ?_); (conv => whnf)))) | ((refine CallP.pure _ rfl _ (p5) ?_); ((conv => whnf); repeat ((first | with_reducible refine BCase.tt ?_ | with_reducible refine BCase.ff ?_); (conv => whnf)))) | ((refine CallP.pure _ rfl _ (p_jbegun) ?_); ((conv => whnf); repeat ((first | with_reducible refine BCase.tt ?_ | with_reducible refine BCase.ff ?_); (conv => whnf)))) | ((refine CallP.pure _ rfl _ (p6) ?_); ((conv => whnf); repeat ((first | with_reducible refine BCase.tt ?_ | with_reducible refine BCase.ff ?_); (conv => whnf)))) | ((with_reducible refine EmpOr.app ?_); ((conv => whnf); repeat ((first | with_reducible refine BCase.tt ?_ | with_reducible refine BCase.ff ?_); (conv => whnf)))) | (first | with_reducible refine BCase.not ?_ | with_reducible refine BCase.and ?_ | with_reducible refine BCase.or ?_) | ((with_reducible refine BCase.d (fun _ => ?_) (fun _ => ?_)) <;> ((conv => whnf); repeat ((first | with_reducible refine BCase.tt ?_ | with_reducible refine BCase.ff ?_); (conv => whnf))))))
    all_goals exact Ret.bool (by first | rfl | simp)
  · have hr : recoverR s = (zeroS, (undoR s).2) := if_pos h
    rw [hr] at p2
    have p6 := p_samestore zeroS zeroS
    rw [sameD_self] at p6
    have p6 := p6.le (args' := [stV zeroS, .agg [.c (.v (.slice none 0 0)), .c (.v (.slice none 0 0)), .c (.v (.slice none 0 0)), .c (.v (.slice none 0 0))]]) ⟨⟨.inl rfl, .inl rfl, .inl rfl, .inl rfl, rfl⟩, ⟨.inr ⟨⟨1, rfl⟩, .inl rfl⟩, .inr ⟨⟨2, rfl⟩, .inl rfl⟩, .inr ⟨⟨1, rfl⟩, .inl rfl⟩, .inr ⟨⟨2, rfl⟩, .inl rfl⟩, rfl⟩, rfl⟩
    (((conv => whnf); repeat ((first | with_reducible refine BCase.tt ?_ | with_reducible refine BCase.ff ?_); (conv => whnf))); repeat' (first | ((first | with_reducible refine Wr.u8 ?_ | ((first | with_reducible refine Wr.ci ?wxs ?_ | with_reducible refine Wr.c3 ?wxs ?_ | with_reducible refine Wr.c6 ?wxs ?_ | with_reducible refine BCase.dt ?wxs ?_); case wxs => (first | omega | (simp only [lens, true_and, and_true]; (try omega); done))) | (with_reducible refine BCase.df ?wxs ?_; case wxs => (first | omega | (simp only [lens, true_and, and_true]; (try omega); done))) | (with_reducible refine Need.mk ?wxs ?_; case wxs => first | (first | omega | (simp only [lens, true_and, and_true]; (try omega); done)) | decide | kernel_rfl) | refine BCase.t (by decide) ?_ | refine BCase.f (by decide) ?_); ((conv => whnf); repeat ((first | with_reducible refine BCase.tt ?_ | with_reducible refine BCase.ff ?_); (conv => whnf)))) | ((refine CallP.pure _ rfl _ (p1) ?_); ((conv => whnf); repeat ((first | with_reducible refine BCase.tt ?_ | with_reducible refine BCase.ff ?_); (conv => whnf)))) | ((refine CallP.pure _ rfl _ (p2) ?_); ((conv => whnf); repeat ((first | with_reducible refine BCase.tt ?_ | with_reducible refine BCase.ff ?_); (conv => whnf)))) | ((refine CallP.pure _ rfl _ (p3) ?_); ((conv => whnf); repeat ((first | with_reducible refine BCase.tt ?_ | with_reducible refine BCase.ff ?_); (conv => whnf)))) | ((refine CallP.pure _ rfl _ (p5) ?_); ((conv => whnf); repeat ((first | with_reducible refine BCase.tt ?_ | with_reducible refine BCase.ff ?_); (conv => whnf)))) | ((refine CallP.pure _ rfl _ (p_jbegun) ?_); ((conv => whnf); repeat ((first | with_reducible refine BCase.tt ?_ | with_reducible refine BCase.ff ?_); (conv => whnf)))) | ((refine CallP.pure _ rfl _ (p6) ?_); ((conv => whnf); repeat ((first | with_reducible refine BCase.tt ?_ | with_reducible refine BCase.ff ?_); (conv => whnf)))) | ((with_reducible refine EmpOr.app ?_); ((conv => whnf); repeat ((first | with_reducible refine BCase.tt ?_ | with_reducible refine BCase.ff ?_); (conv => whnf)))) | (first | with_reducible refine BCase.not ?_ | with_reducible refine BCase.and ?_ | with_reducible refine BCase.or ?_) | ((with_reducible refine BCase.d (fun _ => ?_) (fun _ => ?_)) <;> ((conv => whnf); repeat ((first | with_reducible refine BCase.tt ?_ | with_reducible refine BCase.ff ?_); (conv => whnf))))))
    all_goals exact Ret.bool (by first | rfl | simp)
end Go.Proofs.Ytohlkegmmbdlaaa.Pm
