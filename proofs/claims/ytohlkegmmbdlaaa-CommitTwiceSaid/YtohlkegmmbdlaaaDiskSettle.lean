/- what waits lands: the program's -/
import Derived.Test.YtohlkegmmbdlaaaDiskDone
import Derived.Laws.BitsAllLaws
namespace Go.Proofs.Ytohlkegmmbdlaaa.DiskP
open Go.RowKit K

def settleP (p : List ByteArray) (q : List Wr) (b : Nat → Bool) : List ByteArray := if check p q = 0 then trim (doneOn (pad p) (kept b q)) else []

theorem low_bit (x : Int) (h1 : 0 ≤ x) (h2 : x < 18446744073709551616) : (bits .and .u64 x 1 != 0) = (x % 2 == 1) := by
  rw [u64_and x 1 h1 h2 (by decide) (by decide), show (1 : Int).toNat = 1 from rfl, Nat.and_one_is_mod, Bool.eq_iff_iff, bne_iff_ne, beq_iff_eq]
  omega

theorem crash1_any (m : Int) (h0 : 0 ≤ m) (h1 : m ≤ 18446744073709551615) (i : Nat) (hi : i < 64) (c : Nat) (w : World) (hc : w.cell? ⟨c, 0, none⟩ = some (.int .u64 m)) :
    Calls Try.prog 51 #[.int .i64 (i : Int), .pointer (some ⟨c, 0, none⟩)] w fun e w' => e = .returned (.bool (bitAt m i)) ∧ w = w' := by
  go_enter Try.func51, Try.ntmps51
  go_wp2_with fail
  go_ret
  exact ⟨by rw [low_bit _ (Int.ediv_nonneg h0 (Int.pow_nonneg (by decide))) (Int.lt_of_le_of_lt (Int.ediv_le_self _ h0) (by omega))]; rfl, rfl⟩

theorem sync1_any (i : Int) (w : World) : Calls Try.prog 72 #[.int .i64 i] w fun e w' => e = .returned (.bool true) ∧ w = w' := by
  go_enter Try.func72, Try.ntmps72
  go_wp2_with fail
  go_ret
  exact ⟨rfl, rfl⟩

theorem kept_take (q : List Wr) (b : Nat → Bool) (k : Nat) (hk : k < q.length) : kept b (q.take (k + 1)) = kept b (q.take k) ++ if b k then [q[k]] else [] := by
  rw [List.take_succ_eq_append_getElem hk, kept_snoc, List.length_take, Nat.min_eq_left (Nat.le_of_lt hk)]

theorem wrCells_snoc (q : List Wr) (x : Wr) : wrCells (q ++ [x]) = wrCells q ++ [.int .i64 x.1, .string x.2] := by unfold wrCells; rw [List.flatMap_append]; rfl

set_option maxRecDepth 100000 in
set_option maxHeartbeats 2000000 in
theorem settlesync_any (p : List ByteArray) (q : List Wr) (d : Value) (w : World) (hd : IsDisk w d p q) :
    Calls Try.prog 50 #[d, .func (.func 72) #[] #[]] w fun e w' => ∃ u, e = .returned (.tuple #[u, .int .i64 (check p q)]) ∧ OwnDisk w' w.heap.size u (settleP p q (fun _ => true)) [] ∧ Below w.heap.size w w' := by
  obtain ⟨vp, vq, rfl, hsp, hsq⟩ := id hd
  obtain ⟨_, a, cap, rfl, hc, hm, hnil, hcells⟩ := id hsp
  obtain ⟨_, a', cap', rfl, hc', hm', hnil', hcells'⟩ := id hsq
  unfold maxLen at hm hm'
  have hW : Below w.heap.size w ((w.alloc (.cells #[Value.slice a p.length cap, Value.slice a' q.length cap'] 25)).alloc (.cells #[.slice none 0 0, .slice none 0 0] 25)) := ((Below.refl _ _).alloc (Nat.le_refl _) _).alloc (by simp) _
  have hK : Box22 w.heap.size (Value.slice a p.length cap) (Value.slice a' q.length cap') (.slice none 0 0) (.slice none 0 0) ((w.alloc (.cells #[Value.slice a p.length cap, Value.slice a' q.length cap'] 25)).alloc (.cells #[.slice none 0 0, .slice none 0 0] 25)) := Box22.made _ _ _ _ _ _ _
  have hz : w.heap.size + 1 < ((w.alloc (.cells #[Value.slice a p.length cap, Value.slice a' q.length cap'] 25)).alloc (.cells #[.slice none 0 0, .slice none 0 0] 25)).heap.size := by simp
  have HD := Lib.hid (hd.later hW (Nat.le_refl _))
  have HSP := Lib.hid hsp
  have HSQ := Lib.hid hsq
  clear hd hsp hsq
  go_enter Try.func50, Try.ntmps50
  go_wp2_with fail
  generalize ((w.alloc (.cells #[Value.slice a p.length cap, Value.slice a' q.length cap'] 25)).alloc (.cells #[.slice none 0 0, .slice none 0 0] 25)) = W at *
  refine (check_any p q _ _ HD.out).mono ?_
  rintro e W1 ⟨rfl, hb1⟩
  have hz1 := Nat.lt_of_lt_of_le hz hb1.size
  have hK1 := hK.later hb1 hz
  have hW1 := chain hW hb1
  clear hK hz hb1 hW HD
  obtain ⟨c0, c1, d0, d1, f0, f1⟩ := id hK1
  have hck := check_range p q
  by_cases hce : check p q = 0
  · have HC := Lib.hid hce
    rw [hce]
    have HR := Lib.hid (show settleP p q (fun _ => true) = trim (doneOn (pad p) (kept (fun _ => true) q)) from if_pos hce)
    obtain ⟨o1, o2, o3, o4, o5⟩ := check_ok p q hce
    clear o2 o3 hck hce
    have O5 := Lib.hid o5
    clear o5
    go_wp2_with fail
    go_loopw [7, 19] (fun v i wr => ∃ k : Nat, k ≤ q.length ∧ i = .int .i64 (k : Int) ∧ wr.ownsRow W1.heap.size 56 2 v (kept (fun _ => true) (q.take k)).length (wrCells (kept (fun _ => true) (q.take k))) ∧ Below W1.heap.size W1 wr)
      (fun _ i _ => q.length - (intOf i).toNat)
    case atStart => exact ⟨0, by omega, rfl, World.ownsRow_nil _ _ _ _, Below.refl _ _⟩
    case round =>
      obtain ⟨k, hk, rfl, hown, hbel⟩ := hrel
      have K2 := hK1.later hbel hz1
      obtain ⟨r0, r1, r2, r3, r4, r5⟩ := id K2
      have hz2 := Nat.lt_of_lt_of_le hz1 hbel.size
      have hbw := chain hW1 hbel
      obtain ⟨_, av, capv, e1, _, _, _, hcs⟩ := HSQ.out.later hbw (Nat.le_refl _)
      simp only [Value.slice.injEq, true_and] at e1
      obtain ⟨rfl, rfl⟩ := e1
      have hkl := kept_length (q.take k) (fun _ => true)
      rw [List.length_take] at hkl
      by_cases h : k < q.length
      · obtain ⟨b, off, rfl, hb, cl⟩ := hcs.resolve_left (by omega)
        have e0 := cl _ _ (wrCells_at q k h).1
        have e1 := cl _ _ (wrCells_at q k h).2
        rw [← Nat.add_assoc] at e1
        have ht := kept_take q (fun _ => true) k h
        have hx : Hid (q[k] = (q[k].1, q[k].2)) := rfl
        clear cl hcells hcells' hcs
        have ht' := Lib.hid (ht.trans (congrArg _ (if_pos rfl)))
        clear ht
        generalize q[k].1 = n at *
        generalize q[k].2 = t at *
        go_wp2_with (first
          | (go_at_call 72; refine (sync1_any _ _).mono ?_; rintro e w' ⟨rfl, rfl⟩)
          | (at_builtin; refine push elWrites (.tmp 27) (.tmp 29) rfl rfl _ _ _ rfl (hown.alloc _) (hbel.alloc hbel.size _) (Nat.le_refl _) (Nat.le_trans hbel.size (by simp)) [.int .i64 n, .string t] (by rw [World.size_alloc]; rfl) rfl ?_ ?_ ?_))
        · intro u hu; simp at hu; rcases hu with rfl | rfl <;> rfl
        · omega
        · intro v' w' hown' hbel' _ _
          go_wp2_with fail
          go_roundw
          case rel =>
            refine ⟨k + 1, by omega, by go_num, ?_, hbel'⟩
            rw [ht'.out, hx.out, wrCells_snoc, List.length_append]
            exact hown'
          case measure => simp [intOf]; omega
      · obtain rfl : k = q.length := by omega
        have HT := Lib.hid (List.take_length (l := q))
        rw [HT.out] at hown hkl
        obtain ⟨av, capv, rfl⟩ := own_slice hown
        have HDN := Lib.hid (done_any p (kept (fun _ => true) q) (.slice a p.length cap) (.slice av (kept (fun _ => true) q).length capv) wr o1 (by omega) (fun x hx => (O5.out x (kept_mem _ _ _ hx)).1) (HSP.out.later hbw (Nat.le_refl _)) (Seen.of_own hown))
        clear hcs hcells hcells'
        go_wp2_with (go_at_call 69; refine HDN.out.mono ?_; rintro e w3 ⟨u, rfl, hu, hb3⟩; obtain ⟨a3, k3, rfl⟩ := own_slice hu; have K3 := K2.later hb3 hz2; obtain ⟨-, -, m0, m1, n0, n1⟩ := id K3; have hz3 := Nat.lt_of_lt_of_le hz2 hb3.size)
        refine bodyPost_ret (v := .tuple #[.agg #[.slice a3 (trim (doneOn (pad p) (kept (fun _ => true) q))).length k3, .slice none 0 0], .int .i64 0]) (by simp [results, Try.results50, go_sem, m0, m1]) rfl ⟨_, by rw [HC.out], ?_, ?_⟩
        · rw [HR.out]
          exact ⟨_, _, rfl, own_mono (own_set (own_set (own_mono hu hz2) (by simp) _) (by simp) _) (by omega), World.ownsRow_nil _ _ _ _⟩
        · exact ((chain hbw hb3).setCell (by simp) _).setCell (by simp) _
  · have HR := Lib.hid (show settleP p q (fun _ => true) = [] from if_neg hce)
    have hnz : (check p q != 0) = true := by rw [bne_iff_ne]; exact hce
    clear hce hck hcells hcells'
    go_wp2_with fail
    refine bodyPost_ret (v := .tuple #[.agg #[.slice none 0 0, .slice none 0 0], .int .i64 (check p q)]) (by simp [results, Try.results50, go_sem, d0, d1]) rfl ⟨_, rfl, ?_, ?_⟩
    · rw [HR.out]; exact ownNone _ _
    · exact (hW1.setCell (by simp) _).setCell (by simp) _

set_option maxRecDepth 100000 in
set_option maxHeartbeats 2000000 in
theorem settlecrash_any (p : List ByteArray) (q : List Wr) (d : Value) (m : Int) (hm1 : 0 ≤ m) (hm2 : m ≤ 18446744073709551615) (c : Nat) (w : World) (hd : IsDisk w d p q) (hc1 : w.cell? ⟨c, 0, none⟩ = some (.int .u64 m)) (hc2 : c < w.heap.size) :
    Calls Try.prog 50 #[d, .func (.func 51) #[] #[.pointer (some ⟨c, 0, none⟩)]] w fun e w' => ∃ u, e = .returned (.tuple #[u, .int .i64 (check p q)]) ∧ OwnDisk w' w.heap.size u (settleP p q (bitAt m)) [] ∧ Below w.heap.size w w' := by
  obtain ⟨vp, vq, rfl, hsp, hsq⟩ := id hd
  obtain ⟨_, a, cap, rfl, hc, hm, hnil, hcells⟩ := id hsp
  obtain ⟨_, a', cap', rfl, hc', hm', hnil', hcells'⟩ := id hsq
  unfold maxLen at hm hm'
  have hW : Below w.heap.size w ((w.alloc (.cells #[Value.slice a p.length cap, Value.slice a' q.length cap'] 25)).alloc (.cells #[.slice none 0 0, .slice none 0 0] 25)) := ((Below.refl _ _).alloc (Nat.le_refl _) _).alloc (by simp) _
  have hK : Box22 w.heap.size (Value.slice a p.length cap) (Value.slice a' q.length cap') (.slice none 0 0) (.slice none 0 0) ((w.alloc (.cells #[Value.slice a p.length cap, Value.slice a' q.length cap'] 25)).alloc (.cells #[.slice none 0 0, .slice none 0 0] 25)) := Box22.made _ _ _ _ _ _ _
  have hz : w.heap.size + 1 < ((w.alloc (.cells #[Value.slice a p.length cap, Value.slice a' q.length cap'] 25)).alloc (.cells #[.slice none 0 0, .slice none 0 0] 25)).heap.size := by simp
  have HD := Lib.hid (hd.later hW (Nat.le_refl _))
  have HSP := Lib.hid hsp
  have HSQ := Lib.hid hsq
  clear hd hsp hsq
  go_enter Try.func50, Try.ntmps50
  go_wp2_with fail
  generalize ((w.alloc (.cells #[Value.slice a p.length cap, Value.slice a' q.length cap'] 25)).alloc (.cells #[.slice none 0 0, .slice none 0 0] 25)) = W at *
  refine (check_any p q _ _ HD.out).mono ?_
  rintro e W1 ⟨rfl, hb1⟩
  have hz1 := Nat.lt_of_lt_of_le hz hb1.size
  have hK1 := hK.later hb1 hz
  have hW1 := chain hW hb1
  clear hK hz hb1 hW HD
  obtain ⟨c0, c1, d0, d1, f0, f1⟩ := id hK1
  have hck := check_range p q
  by_cases hce : check p q = 0
  · have HC := Lib.hid hce
    rw [hce]
    have HR := Lib.hid (show settleP p q (bitAt m) = trim (doneOn (pad p) (kept (bitAt m) q)) from if_pos hce)
    obtain ⟨o1, o2, o3, o4, o5⟩ := check_ok p q hce
    clear o2 o3 hck hce
    have O5 := Lib.hid o5
    clear o5
    go_wp2_with fail
    go_loopw [7, 19] (fun v i wr => ∃ k : Nat, k ≤ q.length ∧ i = .int .i64 (k : Int) ∧ wr.ownsRow W1.heap.size 56 2 v (kept (bitAt m) (q.take k)).length (wrCells (kept (bitAt m) (q.take k))) ∧ Below W1.heap.size W1 wr)
      (fun _ i _ => q.length - (intOf i).toNat)
    case atStart => exact ⟨0, by omega, rfl, World.ownsRow_nil _ _ _ _, Below.refl _ _⟩
    case round =>
      obtain ⟨k, hk, rfl, hown, hbel⟩ := hrel
      have K2 := hK1.later hbel hz1
      obtain ⟨r0, r1, r2, r3, r4, r5⟩ := id K2
      have hz2 := Nat.lt_of_lt_of_le hz1 hbel.size
      have hbw := chain hW1 hbel
      obtain ⟨_, av, capv, e1, _, _, _, hcs⟩ := HSQ.out.later hbw (Nat.le_refl _)
      simp only [Value.slice.injEq, true_and] at e1
      obtain ⟨rfl, rfl⟩ := e1
      have hkl := kept_length (q.take k) (bitAt m)
      rw [List.length_take] at hkl
      by_cases h : k < q.length
      · obtain ⟨b, off, rfl, hb, cl⟩ := hcs.resolve_left (by omega)
        have e0 := cl _ _ (wrCells_at q k h).1
        have e1 := cl _ _ (wrCells_at q k h).2
        rw [← Nat.add_assoc] at e1
        have ht := kept_take q (bitAt m) k h
        have hx : Hid (q[k] = (q[k].1, q[k].2)) := rfl
        clear cl hcells hcells' hcs
        have hcap : wr.cell? ⟨c, 0, none⟩ = some (.int .u64 m) := hbw.cell (p := ⟨c, 0, none⟩) hc2 |>.trans hc1
        have hclt : c < wr.heap.size := by omega
        have HCR := Lib.hid (fun W hW => crash1_any m hm1 hm2 k (by omega) c W hW)
        cases hbk : bitAt m k
        · rw [hbk] at ht HCR
          have ht' := Lib.hid (ht.trans ((congrArg _ (if_neg (by decide))).trans (List.append_nil _)))
          clear ht
          generalize q[k].1 = n at *
          generalize q[k].2 = t at *
          go_wp2_with (first
            | (go_at_call 51; go_must (refine (HCR.out _ ((((Below.refl wr.heap.size wr).alloc (Nat.le_refl _) _).cell (p := ⟨c, 0, none⟩) hclt).trans hcap)).mono ?_; rintro e w' ⟨rfl, rfl⟩)))
          go_roundw
          case rel =>
            refine ⟨k + 1, by omega, by go_num, ?_, hbel.alloc hbel.size _⟩
            rw [ht'.out]
            exact hown.alloc _
          case measure => simp [intOf]; omega
        · rw [hbk] at ht HCR
          have ht' := Lib.hid (ht.trans (congrArg _ (if_pos rfl)))
          clear ht
          generalize q[k].1 = n at *
          generalize q[k].2 = t at *
          go_wp2_with (first
            | (go_at_call 51; go_must (refine (HCR.out _ ((((Below.refl wr.heap.size wr).alloc (Nat.le_refl _) _).cell (p := ⟨c, 0, none⟩) hclt).trans hcap)).mono ?_; rintro e w' ⟨rfl, rfl⟩))
            | (at_builtin; refine push elWrites (.tmp 27) (.tmp 29) rfl rfl _ _ _ rfl (hown.alloc _) (hbel.alloc hbel.size _) (Nat.le_refl _) (Nat.le_trans hbel.size (by simp)) [.int .i64 n, .string t] (by rw [World.size_alloc]; rfl) rfl ?_ ?_ ?_))
          · intro u hu; simp at hu; rcases hu with rfl | rfl <;> rfl
          · omega
          · intro v' w' hown' hbel' _ _
            go_wp2_with fail
            go_roundw
            case rel =>
              refine ⟨k + 1, by omega, by go_num, ?_, hbel'⟩
              rw [ht'.out, hx.out, wrCells_snoc, List.length_append]
              exact hown'
            case measure => simp [intOf]; omega
      · obtain rfl : k = q.length := by omega
        have HT := Lib.hid (List.take_length (l := q))
        rw [HT.out] at hown hkl
        obtain ⟨av, capv, rfl⟩ := own_slice hown
        have HDN := Lib.hid (done_any p (kept (bitAt m) q) (.slice a p.length cap) (.slice av (kept (bitAt m) q).length capv) wr o1 (by omega) (fun x hx => (O5.out x (kept_mem _ _ _ hx)).1) (HSP.out.later hbw (Nat.le_refl _)) (Seen.of_own hown))
        clear hcs hcells hcells'
        go_wp2_with (go_at_call 69; refine HDN.out.mono ?_; rintro e w3 ⟨u, rfl, hu, hb3⟩; obtain ⟨a3, k3, rfl⟩ := own_slice hu; have K3 := K2.later hb3 hz2; obtain ⟨-, -, m0, m1, n0, n1⟩ := id K3; have hz3 := Nat.lt_of_lt_of_le hz2 hb3.size)
        refine bodyPost_ret (v := .tuple #[.agg #[.slice a3 (trim (doneOn (pad p) (kept (bitAt m) q))).length k3, .slice none 0 0], .int .i64 0]) (by simp [results, Try.results50, go_sem, m0, m1]) rfl ⟨_, by rw [HC.out], ?_, ?_⟩
        · rw [HR.out]
          exact ⟨_, _, rfl, own_mono (own_set (own_set (own_mono hu hz2) (by simp) _) (by simp) _) (by omega), World.ownsRow_nil _ _ _ _⟩
        · exact ((chain hbw hb3).setCell (by simp) _).setCell (by simp) _
  · have HR := Lib.hid (show settleP p q (bitAt m) = [] from if_neg hce)
    have hnz : (check p q != 0) = true := by rw [bne_iff_ne]; exact hce
    clear hce hck hcells hcells'
    go_wp2_with fail
    refine bodyPost_ret (v := .tuple #[.agg #[.slice none 0 0, .slice none 0 0], .int .i64 (check p q)]) (by simp [results, Try.results50, go_sem, d0, d1]) rfl ⟨_, rfl, ?_, ?_⟩
    · rw [HR.out]; exact ownNone _ _
    · exact (hW1.setCell (by simp) _).setCell (by simp) _

end Go.Proofs.Ytohlkegmmbdlaaa.DiskP
