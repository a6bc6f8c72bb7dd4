/- leaf: Pack, and the document's bytes -/
import Derived.Test.YtcecopdkaalfkaaPlEntry
namespace Go.Proofs.Ytcecopdkaalfkaa.Pm
open Go.RowKit K NumP NumW NumRd NumZ NumL
set_option linter.unusedVariables false
set_option linter.unusedSimpArgs false
set_option maxRecDepth 100000

abbrev eV (x : EntryD) : PV := .agg (x.c.map D.c)
def entB (x : EntryD) : List UInt8 := numB 9 (zig x.Id).toNat ++ rowW x.Row
def entW (l : List EntryD) : List UInt8 := numB 9 l.length ++ l.flatMap entB
def entOk (l : List EntryD) : Prop := ∀ x ∈ l, okInt x.Id ∧ ∀ v ∈ x.Row, okInt v.N
def packE (l : List EntryD) : Int := if entChk l ≠ 0 then entChk l else if 245 < (entW l).length then 2 else 0
def packR (l : List EntryD) : List UInt8 := if packE l = 0 then entW l else []
theorem rowW_len {l : List ValueD} (h : rowChk l = 0) : (rowW l).length ≤ 226 := by
  obtain ⟨h8, hv⟩ := rowChk_ok h
  have hf := flat_len hv
  have n10 := numB9 l.length
  unfold rowW
  rw [List.length_append]
  omega
theorem entB_len {x : EntryD} (h : rowChk x.Row = 0) : (entB x).length ≤ 236 := by
  have h1 := rowW_len h
  have h2 := numB9 (zig x.Id).toNat
  unfold entB
  rw [List.length_append]
  omega
theorem entGo_rows : ∀ {l : List EntryD} {last : Int}, entGo last l = 0 → ∀ x ∈ l, rowChk x.Row = 0
  | [], _, _, x, hx => by simp at hx
  | y :: l, last, h, x, hx => by
    unfold entGo at h
    split at h
    · rename_i q; exact absurd h q
    · split at h
      · rename_i q; exact absurd h q
      · rename_i q1 q2
        rcases List.mem_cons.1 hx with rfl | hx
        · simpa using q2
        · exact entGo_rows h x hx
theorem entChk_ok {l : List EntryD} (h : entChk l = 0) : l.length ≤ 40 ∧ (∀ x ∈ l, rowChk x.Row = 0) ∧ entGo 0 l = 0 := by
  unfold entChk at h
  split at h
  · cases h
  · exact ⟨by omega, entGo_rows h, h⟩
theorem flatB_len : ∀ {l : List EntryD}, (∀ x ∈ l, rowChk x.Row = 0) → (l.flatMap entB).length ≤ 236 * l.length
  | [], _ => by simp
  | v :: l, h => by
    rw [List.flatMap_cons, List.length_append, List.length_cons]
    have h1 := entB_len (h v (List.mem_cons_self ..))
    have h2 := flatB_len (l := l) fun x hx => h x (List.mem_cons_of_mem _ hx)
    omega
theorem flatB_snoc {l : List EntryD} {k : Nat} (h : k < l.length) : (l.take (k + 1)).flatMap entB = (l.take k).flatMap entB ++ entB l[k] := by
  rw [take_snoc h, List.flatMap_append]; simp
theorem p_bytes (x : EntryD) (h : rowChk x.Row = 0) (hi : okInt x.Id) (hN : ∀ v ∈ x.Row, okInt v.N) : Pure Try.prog 21 [eV x] (pStr (tx (entB x))) := by
  have h8 := (rowChk_ok h).1
  have pw := p_recwrite x.Row (by omega) hN
  rw [show writeR x.Row = rowW x.Row from if_pos h, h] at pw
  have ps := p_signed x.Id hi
  have l1 := rowW_len h
  have l2 := numB9 (zig x.Id).toNat
  have t1 := tx_size (rowW x.Row)
  have t2 := tx_size (numB 9 (zig x.Id).toNat)
  refine pure_of Try.func21 (by rfl) rfl (by kernel_rfl) (by rfl) ?_
  (((conv => whnf); repeat ((first | with_reducible refine BCase.tt ?_ | with_reducible refine BCase.ff ?_); (conv => whnf))); repeat' (first | ((first | with_reducible refine Wr.u8 ?_ | ((first | with_reducible refine Wr.ci ?s ?_ | with_reducible refine Wr.c3 ?s ?_ | with_reducible refine Wr.c6 ?s ?_ | with_reducible refine BCase.dt ?s ?_); case s => (first | omega | (simp only [lens, true_and, and_true]; (try omega); done))) | (with_reducible refine BCase.df ?s ?_; case s => (first | omega | (simp only [lens, true_and, and_true]; (try omega); done))) | (with_reducible refine Need.mk ?s ?_; case s => first | (first | omega | (simp only [lens, true_and, and_true]; (try omega); done)) | decide | kernel_rfl) | refine BCase.t (by decide) ?_ | refine BCase.f (by decide) ?_); ((conv => whnf); repeat ((first | with_reducible refine BCase.tt ?_ | with_reducible refine BCase.ff ?_); (conv => whnf)))) | ((refine CallP.pure _ rfl _ (pw) ?_); ((conv => whnf); repeat ((first | with_reducible refine BCase.tt ?_ | with_reducible refine BCase.ff ?_); (conv => whnf)))) | ((refine CallP.pure _ rfl _ (ps) ?_); ((conv => whnf); repeat ((first | with_reducible refine BCase.tt ?_ | with_reducible refine BCase.ff ?_); (conv => whnf)))) | ((with_reducible refine EmpOr.app ?_); ((conv => whnf); repeat ((first | with_reducible refine BCase.tt ?_ | with_reducible refine BCase.ff ?_); (conv => whnf)))) | (first | with_reducible refine BCase.not ?_ | with_reducible refine BCase.and ?_ | with_reducible refine BCase.or ?_) | ((with_reducible refine BCase.d (fun _ => ?_) (fun _ => ?_)) <;> ((conv => whnf); repeat ((first | with_reducible refine BCase.tt ?_ | with_reducible refine BCase.ff ?_); (conv => whnf))))))
  refine Ret.str ?_
  unfold entB
  rw [tx_append]
theorem builder_len (l : List (List C)) : CallS Try.prog 22 [.d (.ptr FK 0)] [(FK, .box tBld [.optp FK 0, .app FK1 tByte 1 l]), (FK1, .tail tByte 1)] [] (pInt .i64 l.length) [] := by
  refine callS_of Try.func22 (by rfl) rfl (by kernel_rfl) (by rfl) [FK, FK1] rfl ?_
  (((conv => whnf); repeat ((first | with_reducible refine BCase.tt ?_ | with_reducible refine BCase.ff ?_); (conv => whnf))); repeat' (first | ((first | with_reducible refine Wr.u8 ?_ | ((first | with_reducible refine Wr.ci ?s ?_ | with_reducible refine Wr.c3 ?s ?_ | with_reducible refine Wr.c6 ?s ?_ | with_reducible refine BCase.dt ?s ?_); case s => (first | omega | (simp only [lens, true_and, and_true]; (try omega); done))) | (with_reducible refine BCase.df ?s ?_; case s => (first | omega | (simp only [lens, true_and, and_true]; (try omega); done))) | (with_reducible refine Need.mk ?s ?_; case s => first | (first | omega | (simp only [lens, true_and, and_true]; (try omega); done)) | decide | kernel_rfl) | refine BCase.t (by decide) ?_ | refine BCase.f (by decide) ?_); ((conv => whnf); repeat ((first | with_reducible refine BCase.tt ?_ | with_reducible refine BCase.ff ?_); (conv => whnf)))) | ((with_reducible refine EmpOr.app ?_); ((conv => whnf); repeat ((first | with_reducible refine BCase.tt ?_ | with_reducible refine BCase.ff ?_); (conv => whnf)))) | (first | with_reducible refine BCase.not ?_ | with_reducible refine BCase.and ?_ | with_reducible refine BCase.or ?_) | ((with_reducible refine BCase.d (fun _ => ?_) (fun _ => ?_)) <;> ((conv => whnf); repeat ((first | with_reducible refine BCase.tt ?_ | with_reducible refine BCase.ff ?_); (conv => whnf))))))
  refine RetS.mk [(FK, FK), (FK1, FK1)] [FK, FK1] rfl rfl ?_ ?_ <;> (repeat' (first | exact rfl | exact trivial | exact Or.inl rfl | refine And.intro ?_ ?_))
theorem p_pack (l : List EntryD) (hl : l.length ≤ 140737488355328) (hr : rowsShort l) (hok : entOk l) : Pure Try.prog 8 [slV 2 EntryD.c l] (.tup [pStr (tx (packR l)), pInt .i64 (packE l)]) := by
  have pc := p_entchk l hl hr
  refine pure_of Try.func8 (by rfl) rfl (by kernel_rfl) (by rfl) ?_
  by_cases h : entChk l = 0
  · obtain ⟨h40, hrw, _⟩ := entChk_ok h
    rw [h] at pc
    have pn := p_numwrite (l.length : Int) (by omega) (by omega)
    rw [Int.toNat_natCast] at pn
    have pn := pn.to (args' := [pInt .u64 ((l.map EntryD.c).length : Int)]) (by rw [List.length_map]) rfl
    have n10 := numB9 l.length
    (((conv => whnf); repeat ((first | with_reducible refine BCase.tt ?_ | with_reducible refine BCase.ff ?_); (conv => whnf))); repeat' (first | ((first | with_reducible refine Wr.u8 ?_ | ((first | with_reducible refine Wr.ci ?s ?_ | with_reducible refine Wr.c3 ?s ?_ | with_reducible refine Wr.c6 ?s ?_ | with_reducible refine BCase.dt ?s ?_); case s => (first | omega | (simp only [lens, true_and, and_true]; (try omega); done))) | (with_reducible refine BCase.df ?s ?_; case s => (first | omega | (simp only [lens, true_and, and_true]; (try omega); done))) | (with_reducible refine Need.mk ?s ?_; case s => first | (first | omega | (simp only [lens, true_and, and_true]; (try omega); done)) | decide | kernel_rfl) | refine BCase.t (by decide) ?_ | refine BCase.f (by decide) ?_); ((conv => whnf); repeat ((first | with_reducible refine BCase.tt ?_ | with_reducible refine BCase.ff ?_); (conv => whnf)))) | ((refine CallP.pure _ rfl _ (pc) ?_); ((conv => whnf); repeat ((first | with_reducible refine BCase.tt ?_ | with_reducible refine BCase.ff ?_); (conv => whnf)))) | ((refine CallP.pure _ rfl _ (pn) ?_); ((conv => whnf); repeat ((first | with_reducible refine BCase.tt ?_ | with_reducible refine BCase.ff ?_); (conv => whnf)))) | (( refine CallP.ret [(FK, 5), (NK, 17)] _ _ _ _ _ _ _ (writeString_fresh (tx (numB 9 l.length)) (by rw [tx_size]; omega)) rfl rfl rfl rfl ⟨rfl, trivial⟩ ?_); ((conv => whnf); repeat ((first | with_reducible refine BCase.tt ?_ | with_reducible refine BCase.ff ?_); (conv => whnf)))) | ((with_reducible refine EmpOr.app ?_); ((conv => whnf); repeat ((first | with_reducible refine BCase.tt ?_ | with_reducible refine BCase.ff ?_); (conv => whnf)))) | (first | with_reducible refine BCase.not ?_ | with_reducible refine BCase.and ?_ | with_reducible refine BCase.or ?_) | ((with_reducible refine BCase.d (fun _ => ?_) (fun _ => ?_)) <;> ((conv => whnf); repeat ((first | with_reducible refine BCase.tt ?_ | with_reducible refine BCase.ff ?_); (conv => whnf))))))
    refine LoopC.mk Nat (fun j => [(5, .d (.ptr 5 0)), (18, slV 2 EntryD.c l), (19, pInt .i64 l.length), (20, pInt .i64 j)]) (fun j => [(5, .box tBld [.optp 5 0, .app 60 tByte 1 (byteRows (numB 9 l.length ++ (l.take j).flatMap entB))]), (60, .tail tByte 1)]) [5, 60] (fun j => j ≤ l.length) (fun j => l.length - j) 0 (Nat.zero_le _) ?start ?round
    case start => exact ⟨[(5, 5), (60, 17)], rfl, rfl, ⟨⟨rfl, rfl, rfl⟩, .inl rfl, PLe.int (by simp), .inl rfl, trivial⟩, ⟨rfl, rfl, ⟨rfl, rfl, rfl⟩, ⟨rfl, rfl, rfl, rfl, by show _ = byteRows (_ ++ []); rw [List.append_nil]; rfl⟩, rfl⟩, ⟨rfl, rfl, rfl⟩, trivial⟩
    case round =>
      intro j hj
      have hf := flatB_len (l := l.take j) fun v hx => hrw v (List.mem_of_mem_take hx)
      rw [List.length_take] at hf
      have hlen : (byteRows (numB 9 l.length ++ (l.take j).flatMap entB)).length ≤ 10 + 236 * 40 := by
        rw [bRows_length, List.length_append]; omega
      by_cases h1 : j < l.length
      · have hm := List.getElem_mem h1
        have hb := entB_len (hrw _ hm)
        have tz := tx_size (entB l[j])
        have es : byteRows (numB 9 l.length ++ (l.take (j + 1)).flatMap entB) = byteRows (numB 9 l.length ++ (l.take j).flatMap entB) ++ byteRows (entB l[j]) := by
          rw [flatB_snoc h1, ← List.append_assoc, byteRows_append]
        (((conv => whnf); repeat ((first | with_reducible refine BCase.tt ?_ | with_reducible refine BCase.ff ?_); (conv => whnf))); repeat' (first | ((first | with_reducible refine Wr.u8 ?_ | ((first | with_reducible refine Wr.ci ?s ?_ | with_reducible refine Wr.c3 ?s ?_ | with_reducible refine Wr.c6 ?s ?_ | with_reducible refine BCase.dt ?s ?_); case s => (first | omega | (simp only [lens, true_and, and_true]; (try omega); done))) | (with_reducible refine BCase.df ?s ?_; case s => (first | omega | (simp only [lens, true_and, and_true]; (try omega); done))) | (with_reducible refine Need.mk ?s ?_; case s => first | (first | omega | (simp only [lens, true_and, and_true]; (try omega); done)) | decide | kernel_rfl) | refine BCase.t (by decide) ?_ | refine BCase.f (by decide) ?_); ((conv => whnf); repeat ((first | with_reducible refine BCase.tt ?_ | with_reducible refine BCase.ff ?_); (conv => whnf)))) | (( refine Idx.mapI j rfl h1 ?_); ((conv => whnf); repeat ((first | with_reducible refine BCase.tt ?_ | with_reducible refine BCase.ff ?_); (conv => whnf)))) | ((refine CallP.pure _ rfl _ (p_bytes l[j] (hrw _ hm) (hok _ hm).1 (hok _ hm).2) ?_); ((conv => whnf); repeat ((first | with_reducible refine BCase.tt ?_ | with_reducible refine BCase.ff ?_); (conv => whnf)))) | (( refine CallP.ret [(FK, 5), (FK1, 60), (NK, 26)] _ _ _ _ _ _ _ (writeString_opt _ (tx (entB l[j])) (by omega)) rfl rfl rfl rfl ⟨rfl, rfl, trivial⟩ ?_); ((conv => whnf); repeat ((first | with_reducible refine BCase.tt ?_ | with_reducible refine BCase.ff ?_); (conv => whnf)))) | ((with_reducible refine EmpOr.app ?_); ((conv => whnf); repeat ((first | with_reducible refine BCase.tt ?_ | with_reducible refine BCase.ff ?_); (conv => whnf)))) | (first | with_reducible refine BCase.not ?_ | with_reducible refine BCase.and ?_ | with_reducible refine BCase.or ?_) | ((with_reducible refine BCase.d (fun _ => ?_) (fun _ => ?_)) <;> ((conv => whnf); repeat ((first | with_reducible refine BCase.tt ?_ | with_reducible refine BCase.ff ?_); (conv => whnf))))))
        exact ⟨j + 1, by omega, by omega, [(5, 5), (60, 26)], rfl, rfl, ⟨⟨rfl, rfl, rfl⟩, .inl rfl, .inl rfl, PLe.int (by omega), trivial⟩, ⟨rfl, rfl, ⟨rfl, rfl, rfl⟩, ⟨rfl, rfl, rfl, rfl, by rw [es]; rfl⟩, rfl⟩, ⟨rfl, rfl, rfl⟩, trivial⟩
      · have ht : l.take j = l := List.take_of_length_le (by omega)
        rw [ht] at hlen ⊢
        have hw : (byteRows (numB 9 l.length ++ l.flatMap entB)).length = (entW l).length := bRows_length _
        (((conv => whnf); repeat ((first | with_reducible refine BCase.tt ?_ | with_reducible refine BCase.ff ?_); (conv => whnf))); repeat' (first | ((first | with_reducible refine Wr.u8 ?_ | ((first | with_reducible refine Wr.ci ?s ?_ | with_reducible refine Wr.c3 ?s ?_ | with_reducible refine Wr.c6 ?s ?_ | with_reducible refine BCase.dt ?s ?_); case s => (first | omega | (simp only [lens, true_and, and_true]; (try omega); done))) | (with_reducible refine BCase.df ?s ?_; case s => (first | omega | (simp only [lens, true_and, and_true]; (try omega); done))) | (with_reducible refine Need.mk ?s ?_; case s => first | (first | omega | (simp only [lens, true_and, and_true]; (try omega); done)) | decide | kernel_rfl) | refine BCase.t (by decide) ?_ | refine BCase.f (by decide) ?_); ((conv => whnf); repeat ((first | with_reducible refine BCase.tt ?_ | with_reducible refine BCase.ff ?_); (conv => whnf)))) | (( refine CallP.ret [(FK, 5), (FK1, 60)] _ _ _ _ _ _ _ (builder_len (byteRows (numB 9 l.length ++ l.flatMap entB))) rfl rfl rfl rfl ⟨rfl, rfl, trivial⟩ ?_); ((conv => whnf); repeat ((first | with_reducible refine BCase.tt ?_ | with_reducible refine BCase.ff ?_); (conv => whnf)))) | (( refine CallP.ret [(FK, 5), (FK1, 60)] _ _ _ _ _ _ _ (string_of (numB 9 l.length ++ l.flatMap entB)) rfl rfl rfl rfl ⟨rfl, rfl, trivial⟩ ?_); ((conv => whnf); repeat ((first | with_reducible refine BCase.tt ?_ | with_reducible refine BCase.ff ?_); (conv => whnf)))) | ((with_reducible refine EmpOr.app ?_); ((conv => whnf); repeat ((first | with_reducible refine BCase.tt ?_ | with_reducible refine BCase.ff ?_); (conv => whnf)))) | (first | with_reducible refine BCase.not ?_ | with_reducible refine BCase.and ?_ | with_reducible refine BCase.or ?_) | ((with_reducible refine BCase.d (fun _ => ?_) (fun _ => ?_)) <;> ((conv => whnf); repeat ((first | with_reducible refine BCase.tt ?_ | with_reducible refine BCase.ff ?_); (conv => whnf))))))
        · have hp : packE l = 2 := by unfold packE; rw [if_neg (not_not_intro h), if_pos (by omega)]
          rw [show packR l = [] from if_neg (by rw [hp]; decide), hp]
          exact Ret.mk rfl
        · have hp : packE l = 0 := by unfold packE; rw [if_neg (not_not_intro h), if_neg (by omega)]
          rw [show packR l = entW l from if_pos hp, hp]
          exact Ret.mk rfl
  · have hp : packE l = entChk l := if_pos h
    rw [show packR l = [] from if_neg (by rw [hp]; exact h), hp]
    (((conv => whnf); repeat ((first | with_reducible refine BCase.tt ?_ | with_reducible refine BCase.ff ?_); (conv => whnf))); repeat' (first | ((first | with_reducible refine Wr.u8 ?_ | ((first | with_reducible refine Wr.ci ?s ?_ | with_reducible refine Wr.c3 ?s ?_ | with_reducible refine Wr.c6 ?s ?_ | with_reducible refine BCase.dt ?s ?_); case s => (first | omega | (simp only [lens, true_and, and_true]; (try omega); done))) | (with_reducible refine BCase.df ?s ?_; case s => (first | omega | (simp only [lens, true_and, and_true]; (try omega); done))) | (with_reducible refine Need.mk ?s ?_; case s => first | (first | omega | (simp only [lens, true_and, and_true]; (try omega); done)) | decide | kernel_rfl) | refine BCase.t (by decide) ?_ | refine BCase.f (by decide) ?_); ((conv => whnf); repeat ((first | with_reducible refine BCase.tt ?_ | with_reducible refine BCase.ff ?_); (conv => whnf)))) | ((refine CallP.pure _ rfl _ (pc) ?_); ((conv => whnf); repeat ((first | with_reducible refine BCase.tt ?_ | with_reducible refine BCase.ff ?_); (conv => whnf)))) | ((with_reducible refine EmpOr.app ?_); ((conv => whnf); repeat ((first | with_reducible refine BCase.tt ?_ | with_reducible refine BCase.ff ?_); (conv => whnf)))) | (first | with_reducible refine BCase.not ?_ | with_reducible refine BCase.and ?_ | with_reducible refine BCase.or ?_) | ((with_reducible refine BCase.d (fun _ => ?_) (fun _ => ?_)) <;> ((conv => whnf); repeat ((first | with_reducible refine BCase.tt ?_ | with_reducible refine BCase.ff ?_); (conv => whnf))))))
    exact Ret.mk rfl
theorem p_entriesbytes (l : List EntryD) (h : entChk l = 0) (hok : entOk l) : Pure Try.prog 11 [slV 2 EntryD.c l] (pStr (tx (entW l))) := by
  obtain ⟨h40, hrw, _⟩ := entChk_ok h
  have pn := p_numbytes (l.length : Int) (by omega) (by omega)
  rw [Int.toNat_natCast] at pn
  have pn := pn.to (args' := [pInt .u64 ((l.map EntryD.c).length : Int)]) (by rw [List.length_map]) rfl
  have n10 := numB9 l.length
  refine pure_of Try.func11 (by rfl) rfl (by kernel_rfl) (by rfl) ?_
  (((conv => whnf); repeat ((first | with_reducible refine BCase.tt ?_ | with_reducible refine BCase.ff ?_); (conv => whnf))); repeat' (first | ((first | with_reducible refine Wr.u8 ?_ | ((first | with_reducible refine Wr.ci ?s ?_ | with_reducible refine Wr.c3 ?s ?_ | with_reducible refine Wr.c6 ?s ?_ | with_reducible refine BCase.dt ?s ?_); case s => (first | omega | (simp only [lens, true_and, and_true]; (try omega); done))) | (with_reducible refine BCase.df ?s ?_; case s => (first | omega | (simp only [lens, true_and, and_true]; (try omega); done))) | (with_reducible refine Need.mk ?s ?_; case s => first | (first | omega | (simp only [lens, true_and, and_true]; (try omega); done)) | decide | kernel_rfl) | refine BCase.t (by decide) ?_ | refine BCase.f (by decide) ?_); ((conv => whnf); repeat ((first | with_reducible refine BCase.tt ?_ | with_reducible refine BCase.ff ?_); (conv => whnf)))) | ((refine CallP.pure _ rfl _ (pn) ?_); ((conv => whnf); repeat ((first | with_reducible refine BCase.tt ?_ | with_reducible refine BCase.ff ?_); (conv => whnf)))) | ((with_reducible refine EmpOr.app ?_); ((conv => whnf); repeat ((first | with_reducible refine BCase.tt ?_ | with_reducible refine BCase.ff ?_); (conv => whnf)))) | (first | with_reducible refine BCase.not ?_ | with_reducible refine BCase.and ?_ | with_reducible refine BCase.or ?_) | ((with_reducible refine BCase.d (fun _ => ?_) (fun _ => ?_)) <;> ((conv => whnf); repeat ((first | with_reducible refine BCase.tt ?_ | with_reducible refine BCase.ff ?_); (conv => whnf))))))
  refine LoopC.mk Nat (fun j => [(0, slV 2 EntryD.c l), (3, pStr (tx (numB 9 l.length ++ (l.take j).flatMap entB))), (4, pInt .i64 j)]) (fun j => []) [] (fun j => j ≤ l.length) (fun j => l.length - j) 0 (Nat.zero_le _) ?start ?round
  case start => exact ⟨[], rfl, rfl, ⟨.inl rfl, PLe.text (by simp), .inl rfl, trivial⟩, trivial⟩
  case round =>
    intro j hj
    have hf := flatB_len (l := l.take j) fun v hx => hrw v (List.mem_of_mem_take hx)
    rw [List.length_take] at hf
    have hlen : (numB 9 l.length ++ (l.take j).flatMap entB).length ≤ 10 + 236 * 40 := by
      rw [List.length_append]; omega
    have tz := tx_size (numB 9 l.length ++ (l.take j).flatMap entB)
    by_cases h1 : j < l.length
    · have hm := List.getElem_mem h1
      have hi := (hok _ hm).1
      have zz := zigN hi
      have pz := p_zigof l[j].Id hi
      have pnb := p_numbytes (zig l[j].Id) (by omega) (by omega)
      have prb := p_rowbytes l[j].Row (hrw _ hm) (hok _ hm).2
      have r1 := rowW_len (hrw _ hm)
      have r2 := numB9 (zig l[j].Id).toNat
      have t1 := tx_size (rowW l[j].Row)
      have t2 := tx_size (numB 9 (zig l[j].Id).toNat)
      (((conv => whnf); repeat ((first | with_reducible refine BCase.tt ?_ | with_reducible refine BCase.ff ?_); (conv => whnf))); repeat' (first | ((first | with_reducible refine Wr.u8 ?_ | ((first | with_reducible refine Wr.ci ?s ?_ | with_reducible refine Wr.c3 ?s ?_ | with_reducible refine Wr.c6 ?s ?_ | with_reducible refine BCase.dt ?s ?_); case s => (first | omega | (simp only [lens, true_and, and_true]; (try omega); done))) | (with_reducible refine BCase.df ?s ?_; case s => (first | omega | (simp only [lens, true_and, and_true]; (try omega); done))) | (with_reducible refine Need.mk ?s ?_; case s => first | (first | omega | (simp only [lens, true_and, and_true]; (try omega); done)) | decide | kernel_rfl) | refine BCase.t (by decide) ?_ | refine BCase.f (by decide) ?_); ((conv => whnf); repeat ((first | with_reducible refine BCase.tt ?_ | with_reducible refine BCase.ff ?_); (conv => whnf)))) | (( refine Idx.mapI j rfl h1 ?_); ((conv => whnf); repeat ((first | with_reducible refine BCase.tt ?_ | with_reducible refine BCase.ff ?_); (conv => whnf)))) | ((refine CallP.pure _ rfl _ (pz) ?_); ((conv => whnf); repeat ((first | with_reducible refine BCase.tt ?_ | with_reducible refine BCase.ff ?_); (conv => whnf)))) | ((refine CallP.pure _ rfl _ (pnb) ?_); ((conv => whnf); repeat ((first | with_reducible refine BCase.tt ?_ | with_reducible refine BCase.ff ?_); (conv => whnf)))) | ((refine CallP.pure _ rfl _ (prb) ?_); ((conv => whnf); repeat ((first | with_reducible refine BCase.tt ?_ | with_reducible refine BCase.ff ?_); (conv => whnf)))) | ((with_reducible refine EmpOr.app ?_); ((conv => whnf); repeat ((first | with_reducible refine BCase.tt ?_ | with_reducible refine BCase.ff ?_); (conv => whnf)))) | (first | with_reducible refine BCase.not ?_ | with_reducible refine BCase.and ?_ | with_reducible refine BCase.or ?_) | ((with_reducible refine BCase.d (fun _ => ?_) (fun _ => ?_)) <;> ((conv => whnf); repeat ((first | with_reducible refine BCase.tt ?_ | with_reducible refine BCase.ff ?_); (conv => whnf))))))
      exact ⟨j + 1, by omega, by omega, [], rfl, rfl, ⟨.inl rfl, PLe.text (by rw [flatB_snoc h1]; simp only [tx_append, entB, List.append_assoc]), PLe.int (by omega), trivial⟩, trivial⟩
    · (((conv => whnf); repeat ((first | with_reducible refine BCase.tt ?_ | with_reducible refine BCase.ff ?_); (conv => whnf))); repeat' (first | ((first | with_reducible refine Wr.u8 ?_ | ((first | with_reducible refine Wr.ci ?s ?_ | with_reducible refine Wr.c3 ?s ?_ | with_reducible refine Wr.c6 ?s ?_ | with_reducible refine BCase.dt ?s ?_); case s => (first | omega | (simp only [lens, true_and, and_true]; (try omega); done))) | (with_reducible refine BCase.df ?s ?_; case s => (first | omega | (simp only [lens, true_and, and_true]; (try omega); done))) | (with_reducible refine Need.mk ?s ?_; case s => first | (first | omega | (simp only [lens, true_and, and_true]; (try omega); done)) | decide | kernel_rfl) | refine BCase.t (by decide) ?_ | refine BCase.f (by decide) ?_); ((conv => whnf); repeat ((first | with_reducible refine BCase.tt ?_ | with_reducible refine BCase.ff ?_); (conv => whnf)))) | ((with_reducible refine EmpOr.app ?_); ((conv => whnf); repeat ((first | with_reducible refine BCase.tt ?_ | with_reducible refine BCase.ff ?_); (conv => whnf)))) | (first | with_reducible refine BCase.not ?_ | with_reducible refine BCase.and ?_ | with_reducible refine BCase.or ?_) | ((with_reducible refine BCase.d (fun _ => ?_) (fun _ => ?_)) <;> ((conv => whnf); repeat ((first | with_reducible refine BCase.tt ?_ | with_reducible refine BCase.ff ?_); (conv => whnf))))))
      refine Ret.text ?_
      rw [List.take_of_length_le (by omega)]; rfl
end Go.Proofs.Ytcecopdkaalfkaa.Pm
