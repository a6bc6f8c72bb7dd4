/- the reference on disks: what lands -/
import Derived.Test.YtohlkegmmbdlaaaDiskRefs2
namespace Go.Proofs.Ytohlkegmmbdlaaa.DiskP
open Go.RowKit K

def allL (p : List ByteArray) (q : List Wr) (m : Int) : List ByteArray := (List.range 32).map fun no : Nat => lastOf (pageAt p (no : Int)) q m (no : Int)
theorem allL_len (p : List ByteArray) (q : List Wr) (m : Int) : (allL p q m).length = 32 := by simp [allL]
theorem allL_take (p : List ByteArray) (q : List Wr) (m : Int) (k : Nat) (hk : k < 32) : (allL p q m).take (k + 1) = (allL p q m).take k ++ [lastOf (pageAt p (k : Int)) q m (k : Int)] := by
  rw [List.take_succ_eq_append_getElem (by rw [allL_len]; exact hk)]
  simp [allL]

set_option maxRecDepth 100000 in
set_option maxHeartbeats 1000000 in
theorem settled_any (p : List ByteArray) (q : List Wr) (vp vq : Value) (m : Int) (hm0 : 0 ≤ m) (hm64 : m ≤ 18446744073709551615) (w : World)
    (hp : Seen w vp p.length 1 (p.map Value.string)) (hq : Seen w vq q.length 2 (wrCells q)) :
    Calls Try.prog 25 #[vp, vq, .int .u64 m] w fun e w' => ∃ u, e = .returned u ∧ w'.ownsRow w.heap.size 9 1 u (settled p q m).length ((settled p q m).map Value.string) ∧ Below w.heap.size w w' := by
  have HP := Lib.hid hp
  have HQ := Lib.hid hq
  clear hp hq
  go_enter Try.func25, Try.ntmps25
  go_wp2_with fail
  go_loopw [7, 8, 9] (fun v n i wr => ∃ k : Nat, k ≤ 32 ∧ i = .int .i64 (k : Int) ∧ n = .int .i64 ((tl ((allL p q m).take k) : Nat) : Int) ∧ wr.ownsRow w.heap.size 9 1 v k (((allL p q m).take k).map Value.string) ∧ Below w.heap.size w wr)
    (fun _ _ i _ => 32 - (intOf i).toNat)
  case atStart => exact ⟨0, by omega, rfl, rfl, World.ownsRow_nil _ _ _ _, Below.refl _ _⟩
  case round =>
    obtain ⟨k, hk, rfl, rfl, hown, hbel⟩ := hrel
    by_cases h : k < 32
    · have hL := Lib.hid (lastof_any p q vp vq m hm0 hm64 (k : Int) wr (HP.out.later hbel (Nat.le_refl _)) (HQ.out.later hbel (Nat.le_refl _)))
      have hlen : Hid (((allL p q m).take k).length = k) := by show _ = _; rw [List.length_take, allL_len]; omega
      have ht := Lib.hid (allL_take p q m k h)
      have htl := tl_le ((allL p q m).take k)
      rw [hlen.out] at htl
      have hsn := Lib.hid (tl_snoc ((allL p q m).take k) (lastOf (pageAt p (k : Int)) q m (k : Int)))
      generalize lastOf (pageAt p (k : Int)) q m (k : Int) = s at *
      generalize (allL p q m).take k = l at *
      by_cases hs : 0 < s.size
      all_goals
        have hsn := hsn.out
        first | rw [if_pos hs] at hsn | rw [if_neg hs] at hsn
        have HSN := Lib.hid hsn
        clear hsn
        go_wp2_with (first
          | (go_at_call 49; refine hL.out.mono ?_; rintro e w' ⟨rfl, rfl⟩)
          | (at_builtin; refine push elStrs (.tmp 20) (.tmp 22) rfl rfl _ _ _ rfl hown hbel (Nat.le_refl _) hbel.size [.string s] rfl rfl ?_ ?_ ?_))
        · intro u hu; simp at hu; subst hu; rfl
        · omega
        · intro v' w' hown' hbel' _ _
          go_wp2_with fail
          go_roundw
          case rel => exact ⟨k + 1, by omega, by go_num, by rw [ht.out, HSN.out] <;> first | rfl | (rw [hlen.out]; rfl), by rw [ht.out, List.map_append]; exact hown', hbel'⟩
          case measure => simp [intOf]; omega
    · obtain rfl : k = 32 := by omega
      have ht : Hid ((allL p q m).take 32 = allL p q m) := List.take_of_length_le (by rw [allL_len]; exact Nat.le_refl _)
      rw [ht.out] at hown ⊢
      have htl := tl_le (allL p q m)
      rw [allL_len] at htl
      obtain ⟨g, cap, rfl, hg, hcap, _⟩ := RowIs.of_own hown (by decide)
      have hm := (Seen.of_own hown).2
      have hcm : cap ≤ 9223372036854775807 := by
        obtain ⟨_, _, e, _, h3, _⟩ := hm
        simp only [Value.slice.injEq] at e
        rw [← e.2.2] at h3
        exact h3
      have hT := own_take hown (tl (allL p q m)) htl
      have HT : Hid (wr.ownsRow w.heap.size 9 1 (.slice (some ⟨g, 0, none⟩) (tl (allL p q m)) cap) (settled p q m).length ((settled p q m).map Value.string)) := by
        show World.ownsRow _ _ _ _ _ _ _
        have e1 : (settled p q m) = (allL p q m).take (tl (allL p q m)) := rfl
        have e2 : ((allL p q m).take (tl (allL p q m))).length = tl (allL p q m) := by rw [List.length_take, allL_len]; omega
        rw [e1, e2, List.map_take]
        rw [Nat.mul_one] at hT
        exact hT
      clear hT hm hown
      generalize tl (allL p q m) = n at *
      have b1 : (0 : Int) ≤ (n : Int) := by omega
      have b2 : (n : Int) ≤ (cap : Int) := by omega
      go_wp2_with fail
      go_ret
      exact ⟨.slice (some ⟨g, 0, none⟩) n cap, rfl, HT.out, hbel⟩

def crashP (p : List ByteArray) (q : List Wr) (m : Int) : List ByteArray := if check p q = 0 then settled p q m else []

set_option maxRecDepth 100000 in
theorem crashof_any (p : List ByteArray) (q : List Wr) (d : Value) (m : Int) (hm0 : 0 ≤ m) (hm64 : m ≤ 18446744073709551615) (w : World) (hd : IsDisk w d p q) :
    Calls Try.prog 66 #[d, .int .u64 m] w fun e w' => ∃ u, e = .returned (.tuple #[u, .int .i64 (check p q)]) ∧ OwnDisk w' w.heap.size u (crashP p q m) [] ∧ Below w.heap.size w w' := by
  obtain ⟨vp, vq, rfl, hsp, hsq⟩ := id hd
  obtain ⟨_, a, cap, rfl, _, _, _, _⟩ := id hsp
  obtain ⟨_, a', cap', rfl, _, _, _, _⟩ := id hsq
  have hW0 := alloc_below w (.cells #[Value.slice a p.length cap, Value.slice a' q.length cap'] 25)
  have hW1 := alloc_below (w.alloc (.cells #[Value.slice a p.length cap, Value.slice a' q.length cap'] 25)) (.cells #[.slice none 0 0, .slice none 0 0] 25)
  have hW := chain hW0 hW1
  have hB := (Res2.new w (Value.slice a p.length cap) (Value.slice a' q.length cap') 25).later hW1 (by simp)
  have hR := Res2.new (w.alloc (.cells #[Value.slice a p.length cap, Value.slice a' q.length cap'] 25)) (.slice none 0 0) (.slice none 0 0) 25
  rw [World.size_alloc] at hR
  have hz : w.heap.size + 1 < ((w.alloc (.cells #[Value.slice a p.length cap, Value.slice a' q.length cap'] 25)).alloc (.cells #[.slice none 0 0, .slice none 0 0] 25)).heap.size := by simp
  have hC := Lib.hid (diskcheck_any p q _ _ (hd.later hW (Nat.le_refl _)))
  have hQ := Lib.hid (And.intro hsp hsq)
  clear hd hsp hsq hW0 hW1
  go_enter Try.func66, Try.ntmps66
  go_wp2_with fail
  generalize ((w.alloc (.cells #[Value.slice a p.length cap, Value.slice a' q.length cap'] 25)).alloc (.cells #[.slice none 0 0, .slice none 0 0] 25)) = W at *
  refine hC.out.mono ?_
  rintro e w1 ⟨rfl, hb1⟩
  have hw1 := chain hW hb1
  have hB1 := hB.later hb1 (by omega)
  have hR1 := hR.later hb1 hz
  have hz1 := Nat.lt_of_lt_of_le hz hb1.size
  obtain ⟨c0, c1, _, _⟩ := id hB1
  obtain ⟨d0, d1, f0, f1⟩ := id hR1
  by_cases hce : check p q = 0
  · have hP := Lib.hid (show crashP p q m = settled p q m from if_pos hce)
    have HC := Lib.hid hce
    rw [hce]
    clear hce
    have hL := Lib.hid (settled_any p q _ _ m hm0 hm64 w1 (hQ.out.1.later hw1 (Nat.le_refl _)) (hQ.out.2.later hw1 (Nat.le_refl _)))
    go_wp2_with (go_at_call 25; refine hL.out.mono ?_; rintro e w2 ⟨u, rfl, hu, hb2⟩; obtain ⟨b1, k1, rfl⟩ := own_slice hu; obtain ⟨e0, e1, g0, g1⟩ := hR1.later hb2 hz1)
    refine bodyPost_ret (v := .tuple #[.agg #[.slice b1 (settled p q m).length k1, .slice none 0 0], .int .i64 0]) (by simp [results, Try.results66, go_sem, e0, e1]) rfl ⟨_, by rw [HC.out], ?_, ?_⟩
    · rw [hP.out]
      exact OwnDisk.mono (B := w1.heap.size) ⟨_, _, rfl, own_set (own_set hu (by simp <;> omega) _) (by simp <;> omega) _, World.ownsRow_nil _ _ _ _⟩ (by omega)
    · exact ((chain hw1 hb2).setCell (by simp <;> omega) _).setCell (by simp <;> omega) _
  · have hP := Lib.hid (show crashP p q m = [] from if_neg hce)
    have hnz' : (check p q != 0) = true := by rw [bne_iff_ne]; exact hce
    clear hce
    go_wp2_with fail
    refine bodyPost_ret (v := .tuple #[.agg #[.slice none 0 0, .slice none 0 0], .int .i64 (check p q)]) (by simp [results, Try.results66, go_sem, d0, d1]) rfl ⟨_, rfl, ?_, (hw1.setCell (by simp <;> omega) _).setCell (by simp <;> omega) _⟩
    rw [hP.out]; exact ownNone _ _

/-- what two writers of a disk make is the same, page by page -/
theorem settleP_crash (p : List ByteArray) (q : List Wr) (b : Nat → Bool) (m : Int) (hb : ∀ i, i < 48 → b i = bitAt m i) : settleP p q b = crashP p q m := by
  unfold settleP crashP
  by_cases h : check p q = 0
  · rw [if_pos h, if_pos h]
    obtain ⟨h1, _, _, h4, h5⟩ := check_ok p q h
    exact settled_done p q m b h1 (fun i hi => hb i (by omega)) fun x hx => (h5 x hx).1
  · rw [if_neg h, if_neg h]

end Go.Proofs.Ytohlkegmmbdlaaa.DiskP
