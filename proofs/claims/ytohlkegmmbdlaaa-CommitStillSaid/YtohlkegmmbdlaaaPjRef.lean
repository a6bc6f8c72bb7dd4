/- journal: what is right of a store, what is hot; the references' small ones -/
import Derived.Test.YtohlkegmmbdlaaaPjDisk
import Derived.Test.YtohlkegmmbdlaaaPmPre
namespace Go.Proofs.Ytohlkegmmbdlaaa.Pm
open Go.RowKit K DiskP
set_option linter.unusedVariables false
set_option linter.unusedSimpArgs false
set_option maxRecDepth 100000

abbrev Str := Dk × Dk
abbrev stV (s : Str) : PV := .agg [.c (pgsC s.1.1), .c (wrsC s.1.2), .c (pgsC s.2.1), .c (wrsC s.2.2)]
abbrev all1 : Int := 18446744073709551615
def storeChk (s : Str) : Int := if check s.1.1 s.1.2 ≠ 0 then check s.1.1 s.1.2 else check s.2.1 s.2.2
/-- does a text begin with a J? -/
def isJ (p : ByteArray) : Bool := match p.data.toList with
  | b :: _ => decide ((b.toNat : Int) = 74)
  | [] => false
def hotR (s : Str) : Bool := isJ (lastOf (pageAt s.2.1 0) s.2.2 all1 0)
def hotP (s : Str) : Bool := isJ (readR s.2.1 s.2.2 0).1
def waitsR (s : Str) : Bool := decide (0 < s.1.2.length + s.2.2.length)
theorem p_sametexts (a b : List ByteArray) : Pure Try.prog 24 [.d (.c (pgsC a)), .d (.c (pgsC b))] (pBool (decide (a = b))) := by
  refine ⟨⟨_, Try.func24, by rfl, by rfl⟩, fun F w vs hG hF hps => ?_⟩
  obtain ⟨u, v, rfl, g1, g2⟩ := ps2 hps
  unfold PRep DRep at g1 g2
  refine (sametexts_any a b u v w (seen_strs g1 hF) (seen_strs g2 hF)).mono ?_
  rintro e w' ⟨rfl, hb⟩
  exact ⟨_, rfl, hb, rep_bool _⟩
theorem p_scheck (s : Str) : Pure Try.prog 14 [stV s] (pInt .i64 (storeChk s)) := by
  refine pure_of Try.func14 (by rfl) rfl (by kernel_rfl) (by rfl) ?_
  unfold storeChk
  have c1 := p_dcheck s.1
  have c2 := p_dcheck s.2
  by_cases h : check s.1.1 s.1.2 = 0
  · rw [if_neg (not_not_intro h)]
    (((conv => whnf); repeat ((first | with_reducible refine BCase.tt ?_ | with_reducible refine BCase.ff ?_); (conv => whnf))); repeat' (first | ((first | with_reducible refine Wr.u8 ?_ | ((first | with_reducible refine Wr.ci ?wxs ?_ | with_reducible refine Wr.c3 ?wxs ?_ | with_reducible refine Wr.c6 ?wxs ?_ | with_reducible refine BCase.dt ?wxs ?_); case wxs => (first | omega | (simp only [lens, true_and, and_true]; (try omega); done))) | (with_reducible refine BCase.df ?wxs ?_; case wxs => (first | omega | (simp only [lens, true_and, and_true]; (try omega); done))) | (with_reducible refine Need.mk ?wxs ?_; case wxs => first | (first | omega | (simp only [lens, true_and, and_true]; (try omega); done)) | decide | kernel_rfl) | refine BCase.t (by decide) ?_ | refine BCase.f (by decide) ?_); ((conv => whnf); repeat ((first | with_reducible refine BCase.tt ?_ | with_reducible refine BCase.ff ?_); (conv => whnf)))) | ((refine CallP.pure _ rfl _ (c1) ?_); ((conv => whnf); repeat ((first | with_reducible refine BCase.tt ?_ | with_reducible refine BCase.ff ?_); (conv => whnf)))) | ((refine CallP.pure _ rfl _ (c2) ?_); ((conv => whnf); repeat ((first | with_reducible refine BCase.tt ?_ | with_reducible refine BCase.ff ?_); (conv => whnf)))) | ((with_reducible refine EmpOr.app ?_); ((conv => whnf); repeat ((first | with_reducible refine BCase.tt ?_ | with_reducible refine BCase.ff ?_); (conv => whnf)))) | (first | with_reducible refine BCase.not ?_ | with_reducible refine BCase.and ?_ | with_reducible refine BCase.or ?_) | ((with_reducible refine BCase.d (fun _ => ?_) (fun _ => ?_)) <;> ((conv => whnf); repeat ((first | with_reducible refine BCase.tt ?_ | with_reducible refine BCase.ff ?_); (conv => whnf))))))
    exact Ret.mk rfl
  · rw [if_pos h]
    (((conv => whnf); repeat ((first | with_reducible refine BCase.tt ?_ | with_reducible refine BCase.ff ?_); (conv => whnf))); repeat' (first | ((first | with_reducible refine Wr.u8 ?_ | ((first | with_reducible refine Wr.ci ?wxs ?_ | with_reducible refine Wr.c3 ?wxs ?_ | with_reducible refine Wr.c6 ?wxs ?_ | with_reducible refine BCase.dt ?wxs ?_); case wxs => (first | omega | (simp only [lens, true_and, and_true]; (try omega); done))) | (with_reducible refine BCase.df ?wxs ?_; case wxs => (first | omega | (simp only [lens, true_and, and_true]; (try omega); done))) | (with_reducible refine Need.mk ?wxs ?_; case wxs => first | (first | omega | (simp only [lens, true_and, and_true]; (try omega); done)) | decide | kernel_rfl) | refine BCase.t (by decide) ?_ | refine BCase.f (by decide) ?_); ((conv => whnf); repeat ((first | with_reducible refine BCase.tt ?_ | with_reducible refine BCase.ff ?_); (conv => whnf)))) | ((refine CallP.pure _ rfl _ (c1) ?_); ((conv => whnf); repeat ((first | with_reducible refine BCase.tt ?_ | with_reducible refine BCase.ff ?_); (conv => whnf)))) | ((refine CallP.pure _ rfl _ (c2) ?_); ((conv => whnf); repeat ((first | with_reducible refine BCase.tt ?_ | with_reducible refine BCase.ff ?_); (conv => whnf)))) | ((with_reducible refine EmpOr.app ?_); ((conv => whnf); repeat ((first | with_reducible refine BCase.tt ?_ | with_reducible refine BCase.ff ?_); (conv => whnf)))) | (first | with_reducible refine BCase.not ?_ | with_reducible refine BCase.and ?_ | with_reducible refine BCase.or ?_) | ((with_reducible refine BCase.d (fun _ => ?_) (fun _ => ?_)) <;> ((conv => whnf); repeat ((first | with_reducible refine BCase.tt ?_ | with_reducible refine BCase.ff ?_); (conv => whnf))))))
    exact Ret.mk rfl
theorem p_scheckref (s : Str) : Pure Try.prog 15 [stV s] (pInt .i64 (storeChk s)) := by
  refine pure_of Try.func15 (by rfl) rfl (by kernel_rfl) (by rfl) ?_
  unfold storeChk
  have c1 := p_dcheckref s.1
  have c2 := p_dcheckref s.2
  by_cases h : check s.1.1 s.1.2 = 0
  · rw [if_neg (not_not_intro h)]
    (((conv => whnf); repeat ((first | with_reducible refine BCase.tt ?_ | with_reducible refine BCase.ff ?_); (conv => whnf))); repeat' (first | ((first | with_reducible refine Wr.u8 ?_ | ((first | with_reducible refine Wr.ci ?wxs ?_ | with_reducible refine Wr.c3 ?wxs ?_ | with_reducible refine Wr.c6 ?wxs ?_ | with_reducible refine BCase.dt ?wxs ?_); case wxs => (first | omega | (simp only [lens, true_and, and_true]; (try omega); done))) | (with_reducible refine BCase.df ?wxs ?_; case wxs => (first | omega | (simp only [lens, true_and, and_true]; (try omega); done))) | (with_reducible refine Need.mk ?wxs ?_; case wxs => first | (first | omega | (simp only [lens, true_and, and_true]; (try omega); done)) | decide | kernel_rfl) | refine BCase.t (by decide) ?_ | refine BCase.f (by decide) ?_); ((conv => whnf); repeat ((first | with_reducible refine BCase.tt ?_ | with_reducible refine BCase.ff ?_); (conv => whnf)))) | ((refine CallP.pure _ rfl _ (c1) ?_); ((conv => whnf); repeat ((first | with_reducible refine BCase.tt ?_ | with_reducible refine BCase.ff ?_); (conv => whnf)))) | ((refine CallP.pure _ rfl _ (c2) ?_); ((conv => whnf); repeat ((first | with_reducible refine BCase.tt ?_ | with_reducible refine BCase.ff ?_); (conv => whnf)))) | ((with_reducible refine EmpOr.app ?_); ((conv => whnf); repeat ((first | with_reducible refine BCase.tt ?_ | with_reducible refine BCase.ff ?_); (conv => whnf)))) | (first | with_reducible refine BCase.not ?_ | with_reducible refine BCase.and ?_ | with_reducible refine BCase.or ?_) | ((with_reducible refine BCase.d (fun _ => ?_) (fun _ => ?_)) <;> ((conv => whnf); repeat ((first | with_reducible refine BCase.tt ?_ | with_reducible refine BCase.ff ?_); (conv => whnf))))))
    exact Ret.mk rfl
  · rw [if_pos h]
    (((conv => whnf); repeat ((first | with_reducible refine BCase.tt ?_ | with_reducible refine BCase.ff ?_); (conv => whnf))); repeat' (first | ((first | with_reducible refine Wr.u8 ?_ | ((first | with_reducible refine Wr.ci ?wxs ?_ | with_reducible refine Wr.c3 ?wxs ?_ | with_reducible refine Wr.c6 ?wxs ?_ | with_reducible refine BCase.dt ?wxs ?_); case wxs => (first | omega | (simp only [lens, true_and, and_true]; (try omega); done))) | (with_reducible refine BCase.df ?wxs ?_; case wxs => (first | omega | (simp only [lens, true_and, and_true]; (try omega); done))) | (with_reducible refine Need.mk ?wxs ?_; case wxs => first | (first | omega | (simp only [lens, true_and, and_true]; (try omega); done)) | decide | kernel_rfl) | refine BCase.t (by decide) ?_ | refine BCase.f (by decide) ?_); ((conv => whnf); repeat ((first | with_reducible refine BCase.tt ?_ | with_reducible refine BCase.ff ?_); (conv => whnf)))) | ((refine CallP.pure _ rfl _ (c1) ?_); ((conv => whnf); repeat ((first | with_reducible refine BCase.tt ?_ | with_reducible refine BCase.ff ?_); (conv => whnf)))) | ((refine CallP.pure _ rfl _ (c2) ?_); ((conv => whnf); repeat ((first | with_reducible refine BCase.tt ?_ | with_reducible refine BCase.ff ?_); (conv => whnf)))) | ((with_reducible refine EmpOr.app ?_); ((conv => whnf); repeat ((first | with_reducible refine BCase.tt ?_ | with_reducible refine BCase.ff ?_); (conv => whnf)))) | (first | with_reducible refine BCase.not ?_ | with_reducible refine BCase.and ?_ | with_reducible refine BCase.or ?_) | ((with_reducible refine BCase.d (fun _ => ?_) (fun _ => ?_)) <;> ((conv => whnf); repeat ((first | with_reducible refine BCase.tt ?_ | with_reducible refine BCase.ff ?_); (conv => whnf))))))
    exact Ret.mk rfl
theorem p_ishot (s : Str) : Pure Try.prog 48 [stV s] (pBool (hotR s)) := by
  refine pure_of Try.func48 (by rfl) rfl (by kernel_rfl) (by rfl) ?_
  unfold hotR
  have pl := p_lastof s.2.1 s.2.2 all1 0 (by decide) (by decide)
  generalize lastOf (pageAt s.2.1 0) s.2.2 all1 0 = p at *
  obtain ⟨l, rfl⟩ : ∃ l, p = tx l := ⟨p.data.toList, (tx_list p).symm⟩
  have tz := tx_size l
  cases l with
  | nil =>
    (((conv => whnf); repeat ((first | with_reducible refine BCase.tt ?_ | with_reducible refine BCase.ff ?_); (conv => whnf))); repeat' (first | ((first | with_reducible refine Wr.u8 ?_ | ((first | with_reducible refine Wr.ci ?wxs ?_ | with_reducible refine Wr.c3 ?wxs ?_ | with_reducible refine Wr.c6 ?wxs ?_ | with_reducible refine BCase.dt ?wxs ?_); case wxs => (first | omega | (simp only [lens, true_and, and_true]; (try omega); done))) | (with_reducible refine BCase.df ?wxs ?_; case wxs => (first | omega | (simp only [lens, true_and, and_true]; (try omega); done))) | (with_reducible refine Need.mk ?wxs ?_; case wxs => first | (first | omega | (simp only [lens, true_and, and_true]; (try omega); done)) | decide | kernel_rfl) | refine BCase.t (by decide) ?_ | refine BCase.f (by decide) ?_); ((conv => whnf); repeat ((first | with_reducible refine BCase.tt ?_ | with_reducible refine BCase.ff ?_); (conv => whnf)))) | ((refine CallP.pure _ rfl _ (pl) ?_); ((conv => whnf); repeat ((first | with_reducible refine BCase.tt ?_ | with_reducible refine BCase.ff ?_); (conv => whnf)))) | ((with_reducible refine EmpOr.app ?_); ((conv => whnf); repeat ((first | with_reducible refine BCase.tt ?_ | with_reducible refine BCase.ff ?_); (conv => whnf)))) | (first | with_reducible refine BCase.not ?_ | with_reducible refine BCase.and ?_ | with_reducible refine BCase.or ?_) | ((with_reducible refine BCase.d (fun _ => ?_) (fun _ => ?_)) <;> ((conv => whnf); repeat ((first | with_reducible refine BCase.tt ?_ | with_reducible refine BCase.ff ?_); (conv => whnf))))))
    exact Ret.mk rfl
  | cons b l =>
    rw [List.length_cons] at tz
    (((conv => whnf); repeat ((first | with_reducible refine BCase.tt ?_ | with_reducible refine BCase.ff ?_); (conv => whnf))); repeat' (first | ((first | with_reducible refine Wr.u8 ?_ | ((first | with_reducible refine Wr.ci ?wxs ?_ | with_reducible refine Wr.c3 ?wxs ?_ | with_reducible refine Wr.c6 ?wxs ?_ | with_reducible refine BCase.dt ?wxs ?_); case wxs => (first | omega | (simp only [lens, true_and, and_true]; (try omega); done))) | (with_reducible refine BCase.df ?wxs ?_; case wxs => (first | omega | (simp only [lens, true_and, and_true]; (try omega); done))) | (with_reducible refine Need.mk ?wxs ?_; case wxs => first | (first | omega | (simp only [lens, true_and, and_true]; (try omega); done)) | decide | kernel_rfl) | refine BCase.t (by decide) ?_ | refine BCase.f (by decide) ?_); ((conv => whnf); repeat ((first | with_reducible refine BCase.tt ?_ | with_reducible refine BCase.ff ?_); (conv => whnf)))) | ((refine CallP.pure _ rfl _ (pl) ?_); ((conv => whnf); repeat ((first | with_reducible refine BCase.tt ?_ | with_reducible refine BCase.ff ?_); (conv => whnf)))) | (( refine SIdx.mk b (by decide) rfl ?_); ((conv => whnf); repeat ((first | with_reducible refine BCase.tt ?_ | with_reducible refine BCase.ff ?_); (conv => whnf)))) | ((with_reducible refine EmpOr.app ?_); ((conv => whnf); repeat ((first | with_reducible refine BCase.tt ?_ | with_reducible refine BCase.ff ?_); (conv => whnf)))) | (first | with_reducible refine BCase.not ?_ | with_reducible refine BCase.and ?_ | with_reducible refine BCase.or ?_) | ((with_reducible refine BCase.d (fun _ => ?_) (fun _ => ?_)) <;> ((conv => whnf); repeat ((first | with_reducible refine BCase.tt ?_ | with_reducible refine BCase.ff ?_); (conv => whnf))))))
    exact Ret.mk rfl
theorem isJ_pre (l : List UInt8) : hasPre l [74] = isJ (tx l) := by
  unfold hasPre isJ
  cases l with
  | nil => rfl
  | cons b l =>
    show decide ([b] = [74]) = decide ((b.toNat : Int) = 74)
    rw [decide_eq_decide]
    constructor
    · intro h; cases h; rfl
    · intro h
      have : b = 74 := UInt8.toNat_inj.1 (by show b.toNat = 74; omega)
      rw [this]
theorem p_hot (s : Str) : Pure Try.prog 46 [stV s] (pBool (hotP s)) := by
  refine pure_of Try.func46 (by rfl) rfl (by kernel_rfl) (by rfl) ?_
  unfold hotP
  have pl := p_dread s.2 0
  generalize readR s.2.1 s.2.2 0 = r at *
  obtain ⟨p, e⟩ := r
  obtain ⟨l, rfl⟩ : ∃ l, p = tx l := ⟨p.data.toList, (tx_list p).symm⟩
  have ph := (p_haspre l [74]).to rfl (by rw [isJ_pre])
  (((conv => whnf); repeat ((first | with_reducible refine BCase.tt ?_ | with_reducible refine BCase.ff ?_); (conv => whnf))); repeat' (first | ((first | with_reducible refine Wr.u8 ?_ | ((first | with_reducible refine Wr.ci ?wxs ?_ | with_reducible refine Wr.c3 ?wxs ?_ | with_reducible refine Wr.c6 ?wxs ?_ | with_reducible refine BCase.dt ?wxs ?_); case wxs => (first | omega | (simp only [lens, true_and, and_true]; (try omega); done))) | (with_reducible refine BCase.df ?wxs ?_; case wxs => (first | omega | (simp only [lens, true_and, and_true]; (try omega); done))) | (with_reducible refine Need.mk ?wxs ?_; case wxs => first | (first | omega | (simp only [lens, true_and, and_true]; (try omega); done)) | decide | kernel_rfl) | refine BCase.t (by decide) ?_ | refine BCase.f (by decide) ?_); ((conv => whnf); repeat ((first | with_reducible refine BCase.tt ?_ | with_reducible refine BCase.ff ?_); (conv => whnf)))) | ((refine CallP.pure _ rfl _ (pl) ?_); ((conv => whnf); repeat ((first | with_reducible refine BCase.tt ?_ | with_reducible refine BCase.ff ?_); (conv => whnf)))) | ((refine CallP.pure _ rfl _ (ph) ?_); ((conv => whnf); repeat ((first | with_reducible refine BCase.tt ?_ | with_reducible refine BCase.ff ?_); (conv => whnf)))) | ((with_reducible refine EmpOr.app ?_); ((conv => whnf); repeat ((first | with_reducible refine BCase.tt ?_ | with_reducible refine BCase.ff ?_); (conv => whnf)))) | (first | with_reducible refine BCase.not ?_ | with_reducible refine BCase.and ?_ | with_reducible refine BCase.or ?_) | ((with_reducible refine BCase.d (fun _ => ?_) (fun _ => ?_)) <;> ((conv => whnf); repeat ((first | with_reducible refine BCase.tt ?_ | with_reducible refine BCase.ff ?_); (conv => whnf))))))
  exact Ret.mk rfl
theorem p_waits (s : Str) (h1 : s.1.2.length ≤ 140737488355328) (h2 : s.2.2.length ≤ 140737488355328) : Pure Try.prog 45 [stV s] (pBool (waitsR s)) := by
  refine pure_of Try.func45 (by rfl) rfl (by kernel_rfl) (by rfl) ?_
  unfold waitsR
  (((conv => whnf); repeat ((first | with_reducible refine BCase.tt ?_ | with_reducible refine BCase.ff ?_); (conv => whnf))); repeat' (first | ((first | with_reducible refine Wr.u8 ?_ | ((first | with_reducible refine Wr.ci ?wxs ?_ | with_reducible refine Wr.c3 ?wxs ?_ | with_reducible refine Wr.c6 ?wxs ?_ | with_reducible refine BCase.dt ?wxs ?_); case wxs => (first | omega | (simp only [lens, true_and, and_true]; (try omega); done))) | (with_reducible refine BCase.df ?wxs ?_; case wxs => (first | omega | (simp only [lens, true_and, and_true]; (try omega); done))) | (with_reducible refine Need.mk ?wxs ?_; case wxs => first | (first | omega | (simp only [lens, true_and, and_true]; (try omega); done)) | decide | kernel_rfl) | refine BCase.t (by decide) ?_ | refine BCase.f (by decide) ?_); ((conv => whnf); repeat ((first | with_reducible refine BCase.tt ?_ | with_reducible refine BCase.ff ?_); (conv => whnf)))) | ((with_reducible refine EmpOr.app ?_); ((conv => whnf); repeat ((first | with_reducible refine BCase.tt ?_ | with_reducible refine BCase.ff ?_); (conv => whnf)))) | (first | with_reducible refine BCase.not ?_ | with_reducible refine BCase.and ?_ | with_reducible refine BCase.or ?_) | ((with_reducible refine BCase.d (fun _ => ?_) (fun _ => ?_)) <;> ((conv => whnf); repeat ((first | with_reducible refine BCase.tt ?_ | with_reducible refine BCase.ff ?_); (conv => whnf))))))
  refine Ret.bool ?_
  rw [decide_eq_decide, List.length_map, List.length_map]; omega
end Go.Proofs.Ytohlkegmmbdlaaa.Pm
