/- writes done on pages: the program's -/
import Derived.Test.YtohlkegmmbdlaaaDiskClone
import Derived.Laws.CopyOwn
namespace Go.Proofs.Ytohlkegmmbdlaaa.DiskP
open Go.RowKit K

def strs (l : List ByteArray) : List Value := l.map Value.string

theorem doneOn_take (p : List ByteArray) (q : List Wr) (k : Nat) (hk : k < q.length) : doneOn p (q.take (k + 1)) = (doneOn p (q.take k)).set q[k].1.toNat q[k].2 := by
  rw [List.take_succ_eq_append_getElem hk, doneOn_snoc]

def blanks : List Value := List.replicate 32 (.string ⟨#[]⟩)

theorem splice_pad (p : List ByteArray) : splice blanks 0 (strs p) = strs (pad p) := by
  unfold splice blanks pad strs
  rw [List.take_zero, List.nil_append, List.map_append, List.length_map, Nat.zero_add, List.drop_replicate, List.map_replicate]

set_option maxRecDepth 100000 in
set_option maxHeartbeats 2000000 in
theorem done_any (p : List ByteArray) (q : List Wr) (vp vq : Value) (w : World) (hp : p.length ≤ 32) (hq : q.length ≤ 1000) (hpl : ∀ x ∈ q, inPlace x.1 = true)
    (hsp : Seen w vp p.length 1 (strs p)) (hsq : Seen w vq q.length 2 (wrCells q)) :
    Calls Try.prog 69 #[vp, vq] w fun e w' => ∃ u, e = .returned u ∧ w'.ownsRow w.heap.size 9 1 u (trim (doneOn (pad p) q)).length (strs (trim (doneOn (pad p) q))) ∧ Below w.heap.size w w' := by
  obtain ⟨_, a, cap, rfl, hc, hm, hnil, hcells⟩ := id hsp
  obtain ⟨_, a', cap', rfl, hc', hm', hnil', hcells'⟩ := id hsq
  unfold maxLen at hm hm'
  go_enter Try.func69, Try.ntmps69
  go_wp2_with (with_reducible refine wpList_copy_splice rfl (.tmp 9) (.tmp 10) 22 22 rfl 9 Try.underlying22 (by kernel_rfl) _ _ _ _ _ _ rfl rfl w.heap.size 0 blanks 100 ?hg (strs p) ?hn ?hpos ?hfit ?h1 w.heap.size w ?hb (Nat.le_refl _) ?_)
  case hg => exact heap_alloc_new w _
  case hn => unfold strs; rw [List.length_map]; exact (Nat.min_eq_left hp).symm
  case hpos =>
    intro h0
    have h0 : 0 < p.length := by simpa [strs] using h0
    obtain ⟨b, off, rfl, hb, cl⟩ := hcells.resolve_left (by omega)
    refine ⟨⟨b, off, none⟩, rfl, fun j v hv => ?_⟩
    have hadd : (⟨b, off, none⟩ : Addr).add j = ⟨b, off + j, none⟩ := by unfold Addr.add; split <;> simp_all
    rw [hadd]
    exact (((Below.refl _ w).alloc (Nat.le_refl _) _).cell (p := ⟨b, off + j, none⟩) hb).trans (cl j v hv)
  case hfit => simp [strs, blanks]; omega
  case h1 =>
    intro u hu
    obtain ⟨x, _, rfl⟩ := List.mem_map.1 hu
    rfl
  case hb => exact (Below.refl _ _).alloc (Nat.le_refl _) _
  intro W hrow hbW
  have hR : RowIs W w.heap.size 100 (strs (pad p)) := by
    have e : splice blanks 0 (strs p) = strs (pad p) := splice_pad p
    have hrow := hrow.out
    rw [e] at hrow
    exact ⟨_, hrow, by simp, by simp⟩
  clear hrow hcells
  have HR := Lib.hid hR
  clear hR
  go_wp2_with fail
  go_loopw [14] (fun i wr => ∃ k : Nat, k ≤ q.length ∧ i = .int .i64 (k : Int) ∧ Hid (RowIs wr w.heap.size 100 (strs (doneOn (pad p) (q.take k)))) ∧ Below w.heap.size w wr)
    (fun i _ => q.length - (intOf i).toNat)
  case atStart => exact ⟨0, by omega, rfl, HR, hbW⟩
  case round =>
    obtain ⟨k, hk, rfl, hr, hbel⟩ := hrel
    by_cases h : k < q.length
    · obtain ⟨_, av, capv, e1, _, _, _, hcs⟩ := hsq.later hbel (Nat.le_refl _)
      simp only [Value.slice.injEq, true_and] at e1
      obtain ⟨rfl, rfl⟩ := e1
      obtain ⟨b, off, rfl, hb, cl⟩ := hcs.resolve_left (by omega)
      have c0 := cl _ _ (wrCells_at q k h).1
      have c1 := cl _ _ (wrCells_at q k h).2
      rw [← Nat.add_assoc] at c1
      have hin := hpl q[k] (List.getElem_mem h)
      have hdt := doneOn_take (pad p) q k h
      have hlen : (doneOn (pad p) (q.take k)).length = 32 := by rw [doneOn_length, pad_length p hp]
      obtain ⟨n, hn0, hn⟩ : ∃ n : Nat, q[k].1 = (n : Int) ∧ n < 32 := by
        unfold inPlace at hin
        simp at hin
        exact ⟨q[k].1.toNat, by omega, by omega⟩
      rw [hn0] at c0 hdt
      rw [Int.toNat_natCast] at hdt
      have HDT := Lib.hid hdt
      clear hdt hin hn0
      generalize q[k].2 = t at *
      generalize doneOn (pad p) (q.take k) = arr at *
      have hr1 := hr.out
      have cE := hr1.cell (j := n) (by simp [strs]; omega)
      have fE := hr1.free n
      have hlt := hr1.lt
      have hst := Lib.hid (hr1.set n (.string t))
      clear hr1 cl hcs hcells'
      go_wp2_with fail
      go_roundw
      case rel =>
        refine ⟨k + 1, by omega, by go_num, Lib.hid ?_, (hbel.setCell (p := ⟨w.heap.size, n, none⟩) (Nat.le_refl _) _).trans ((Below.refl _ _).alloc (by simp; omega) _)⟩
        have := hst.out
        rw [HDT.out]
        rw [show (strs arr).set n (.string t) = strs (arr.set n t) from (List.map_set ..).symm] at this
        exact this.alloc _
      case measure => simp [intOf]; omega
    · obtain rfl : k = q.length := by omega
      have HT := Lib.hid (List.take_length (l := q))
      have hr1 := hr.out
      rw [HT.out] at hr1
      have hlen : (doneOn (pad p) q).length = 32 := by rw [doneOn_length, pad_length p hp]
      clear hr HT hcells' HR hbW
      generalize hA : doneOn (pad p) q = arr at *
      have HA := Lib.hid hA
      clear hA
      have hlt := hr1.lt
      have hll := tl_le arr
      have HRR := Lib.hid hr1
      have hsz : (strs arr).length = 32 := by unfold strs; rw [List.length_map]; exact hlen
      have HSZ := Lib.hid hsz
      have HLEN := Lib.hid hlen
      clear hr1 hsz hlen
      go_wp2_with fail
      go_loop [8] (fun i => ∃ n : Nat, n ≤ 32 ∧ i = .int .i64 (n : Int) ∧ Hid (tl (arr.take n) = tl arr)) (fun i => (intOf i).toNat)
      case atStart => exact ⟨32, by omega, rfl, Lib.hid (by rw [List.take_of_length_le (by rw [HLEN.out]; exact Nat.le_refl _)])⟩
      case round =>
        obtain ⟨n, hn, rfl, htl⟩ := hrel
        have hend : Hid ((n = 0 ∨ ∃ s, arr[n - 1]? = some s ∧ 0 < s.size) → arr.take n = trim arr) := by
          intro h
          unfold trim
          rcases h with rfl | ⟨s, h1, h2⟩
          · rw [← htl.out]; rfl
          · have hn1 : n - 1 < arr.length := (List.getElem?_eq_some_iff.1 h1).1
            by_cases h0 : n = 0
            · subst h0; rw [← htl.out]; rfl
            · have e : arr.take n = arr.take (n - 1) ++ [s] := by
                have := List.take_succ_eq_append_getElem hn1
                rw [List.getElem?_eq_getElem hn1, Option.some.injEq] at h1
                rw [h1, show n - 1 + 1 = n by omega] at this
                exact this
              have h3 := htl.out
              rw [e, tl_snoc, if_pos h2, List.length_take, Nat.min_eq_left (by omega)] at h3
              rw [← h3, show n - 1 + 1 = n by omega]
        have hseen := Seen.of_row HRR.out n 32 (by rw [HSZ.out]; exact hn) hn (by decide)
        rw [show (strs arr).take n = strs (arr.take n) from List.map_take.symm] at hseen
        have hsn : Hid ((arr.take n).length = n) := by show _ = _; rw [List.length_take, HLEN.out]; omega
        have hcl : arr.take n = trim arr → Calls Try.prog 57 #[.slice (some ⟨w.heap.size, 0, none⟩) n 32] wr fun e w' => ∃ u, e = .returned u ∧ w'.ownsRow wr.heap.size 9 1 u (trim arr).length (strs (trim arr)) ∧ Below wr.heap.size wr w' := fun e => by
          have := clonestrs_any (trim arr) (.slice (some ⟨w.heap.size, 0, none⟩) n 32) wr (by have := tl_le arr; have := HLEN.out; unfold trim; rw [List.length_take]; omega) (by rw [← e, hsn.out]; exact hseen)
          exact this
        have HCL := Lib.hid hcl
        clear hcl hseen
        by_cases h0 : n = 0
        · subst h0
          have HC := Lib.hid (HCL.out (hend.out (.inl rfl)))
          go_wp2_with fail
          refine HC.out.mono ?_
          rintro e w2 ⟨u, rfl, hu, hb⟩
          go_wp2_with fail
          go_ret
          exact ⟨u, rfl, by rw [HA.out]; exact own_mono hu (Nat.le_of_lt hlt), chain hbel hb⟩
        · have hn0 : 0 < n := by omega
          have hlt1 : n - 1 < arr.length := by have := HLEN.out; omega
          have cE := HRR.out.cell (j := n - 1) (by have := HSZ.out; omega)
          rw [show (strs arr)[n - 1]'(by have := HSZ.out; omega) = .string arr[n - 1] from by simp [strs]] at cE
          have he : Hid (arr.take n = arr.take (n - 1) ++ [arr[n - 1]]) := by
            have := List.take_succ_eq_append_getElem hlt1
            rw [show n - 1 + 1 = n by omega] at this
            exact this
          have hg : Hid (arr[n - 1]? = some arr[n - 1]) := List.getElem?_eq_getElem hlt1
          generalize arr[n - 1] = s at *
          have hn1 : Hid ((n : Int) - 1 = ((n - 1 : Nat) : Int)) := by show _ = _; omega
          clear h0 hlt1
          have b1 : (0 : Int) ≤ (n : Int) := by omega
          have b2 : (n : Int) ≤ 32 := by omega
          by_cases hs : s.size = 0
          · obtain rfl := blank_eq hs
            clear hs
            go_wp2_with fail
            go_round
            case rel => exact ⟨n - 1, by omega, by rw [hn1.out], Lib.hid (by rw [← htl.out, he.out, tl_snoc]; rfl)⟩
            case measure => simp [intOf]; omega
          · have hnb := not_blank s hs
            have HC := Lib.hid (HCL.out (hend.out (.inr ⟨s, hg.out, Nat.pos_of_ne_zero hs⟩)))
            clear hs
            go_wp2_with fail
            refine HC.out.mono ?_
            rintro e w2 ⟨u, rfl, hu, hb⟩
            go_wp2_with fail
            go_ret
            exact ⟨u, rfl, by rw [HA.out]; exact own_mono hu (Nat.le_of_lt hlt), chain hbel hb⟩

end Go.Proofs.Ytohlkegmmbdlaaa.DiskP
