/- Write: the program's -/
import Derived.Test.YtohlkegmmbdlaaaDiskCrash
namespace Go.Proofs.Ytohlkegmmbdlaaa.DiskP
open Go.RowKit K

theorem writeE_range (p : List ByteArray) (q : List Wr) (n : Int) (s : ByteArray) : writeE p q n s = 0 ∨ writeE p q n s = 1 ∨ writeE p q n s = 2 ∨ writeE p q n s = 3 := by
  unfold writeE
  have := check_range p q
  split
  · exact this
  · split
    · simp
    · split <;> simp

def writeP (p : List ByteArray) (q : List Wr) (n : Int) (s : ByteArray) : List ByteArray := if writeE p q n s = 0 then p else []
def writeQ (p : List ByteArray) (q : List Wr) (n : Int) (s : ByteArray) : List Wr := if writeE p q n s = 0 then q ++ [(n, s)] else []
theorem writeP_no {p : List ByteArray} {q : List Wr} {n : Int} {s : ByteArray} (h : writeE p q n s ≠ 0) : writeP p q n s = [] ∧ writeQ p q n s = [] := ⟨if_neg h, if_neg h⟩
theorem writeP_yes {p : List ByteArray} {q : List Wr} {n : Int} {s : ByteArray} (h : writeE p q n s = 0) : writeP p q n s = p ∧ writeQ p q n s = q ++ [(n, s)] := ⟨if_pos h, if_pos h⟩
theorem ownNo {p : List ByteArray} {q : List Wr} {n : Int} {s : ByteArray} (h : writeE p q n s ≠ 0) (w : World) (B : Nat) : OwnDisk w B (.agg #[.slice none 0 0, .slice none 0 0]) (writeP p q n s) (writeQ p q n s) := by
  rw [(writeP_no h).1, (writeP_no h).2]; exact ownNone _ _

set_option maxRecDepth 100000 in
set_option maxHeartbeats 1000000 in
theorem write_any (p : List ByteArray) (q : List Wr) (d : Value) (n : Int) (s : ByteArray) (w : World) (hd : IsDisk w d p q) :
    Calls Try.prog 62 #[d, .int .i64 n, .string s] w fun e w' => ∃ u, e = .returned (.tuple #[u, .int .i64 (writeE p q n s)]) ∧
      OwnDisk w' w.heap.size u (writeP p q n s) (writeQ p q n s) ∧ Below w.heap.size w w' := by
  obtain ⟨vp, vq, rfl, hsp, hsq⟩ := id hd
  obtain ⟨_, a, cap, rfl, _, _, _, _⟩ := id hsp
  obtain ⟨_, a', cap', rfl, _, _, _, _⟩ := id hsq
  have hW0 := alloc_below w (.cells #[Value.slice a p.length cap, Value.slice a' q.length cap'] 25)
  have hW1 := alloc_below (w.alloc (.cells #[Value.slice a p.length cap, Value.slice a' q.length cap'] 25)) (.cells #[.slice none 0 0, .slice none 0 0] 25)
  have hW := chain hW0 hW1
  have hB := (Res2.new w (Value.slice a p.length cap) (Value.slice a' q.length cap') 25).later hW1 (by simp)
  have hR := Res2.new (w.alloc (.cells #[Value.slice a p.length cap, Value.slice a' q.length cap'] 25)) (.slice none 0 0) (.slice none 0 0) 25
  rw [World.size_alloc] at hR
  have hz : w.heap.size + 1 < ((w.alloc (.cells #[Value.slice a p.length cap, Value.slice a' q.length cap'] 25)).alloc (.cells #[.slice none 0 0, .slice none 0 0] 25)).heap.size := by simp
  have HD := Lib.hid hd
  have hck := check_any p q _ _ (hd.later hW (Nat.le_refl _))
  clear hd hsp hsq hW0 hW1
  go_enter Try.func62, Try.ntmps62
  go_wp2_with fail
  generalize ((w.alloc (.cells #[Value.slice a p.length cap, Value.slice a' q.length cap'] 25)).alloc (.cells #[.slice none 0 0, .slice none 0 0] 25)) = W at *
  refine hck.mono ?_
  rintro e W1 ⟨rfl, hb1⟩
  have hz1 := Nat.lt_of_lt_of_le hz hb1.size
  have hB1 := hB.later hb1 (by omega)
  have hR1 := hR.later hb1 hz
  have hW1 := chain hW hb1
  clear hB hR hz hb1 hW hck
  obtain ⟨c0, c1, g0, g1⟩ := id hB1
  obtain ⟨d0, d1, f0, f1⟩ := id hR1
  by_cases hce : check p q = 0
  · have HE := Lib.hid (show writeE p q n s = if inPlace n = false then 3 else if tooLong s = true ∨ q.length = 48 then 2 else 0 by unfold writeE; rw [if_neg (by simpa using hce)])
    have hq48 := (check_ok p q hce).2.2.2.1
    have hp32 := (check_ok p q hce).1
    rw [hce]
    clear hce
    cases hpl : inPlace n
    · have HE := Lib.hid (HE.out.trans (if_pos hpl))
      have HPL := Lib.hid hpl
      clear hpl
      go_wp2_with (go_at_call 52; refine (place_any _ _).mono ?_; rintro e w' ⟨rfl, rfl⟩; rw [HPL.out])
      refine bodyPost_ret (v := .tuple #[.agg #[.slice none 0 0, .slice none 0 0], .int .i64 3]) (by simp [results, Try.results62, go_sem, d0, d1]) rfl ⟨_, by rw [HE.out], ownNo (by rw [HE.out]; decide) _ _, (hW1.setCell (by simp <;> omega) _).setCell (by simp <;> omega) _⟩
    · have HE := Lib.hid (HE.out.trans (if_neg (by rw [hpl]; decide)))
      have HPL := Lib.hid hpl
      clear hpl
      by_cases hl : 260 < s.size
      · have HE := Lib.hid (HE.out.trans (if_pos (.inl (decide_eq_true hl))))
        go_wp2_with (go_at_call 52; refine (place_any _ _).mono ?_; rintro e w' ⟨rfl, rfl⟩; rw [HPL.out])
        refine bodyPost_ret (v := .tuple #[.agg #[.slice none 0 0, .slice none 0 0], .int .i64 2]) (by simp [results, Try.results62, go_sem, d0, d1]) rfl ⟨_, by rw [HE.out], ownNo (by rw [HE.out]; decide) _ _, (hW1.setCell (by simp <;> omega) _).setCell (by simp <;> omega) _⟩
      · by_cases h48 : q.length = 48
        · have HE := Lib.hid (HE.out.trans (if_pos (.inr h48)))
          have hb : ((q.length : Int) == 48) = true := by rw [h48]; rfl
          clear h48
          go_wp2_with (go_at_call 52; refine (place_any _ _).mono ?_; rintro e w' ⟨rfl, rfl⟩; rw [HPL.out])
          refine bodyPost_ret (v := .tuple #[.agg #[.slice none 0 0, .slice none 0 0], .int .i64 2]) (by simp [results, Try.results62, go_sem, d0, d1]) rfl ⟨_, by rw [HE.out], ownNo (by rw [HE.out]; decide) _ _, (hW1.setCell (by simp <;> omega) _).setCell (by simp <;> omega) _⟩
        · have HE := Lib.hid (HE.out.trans (if_neg (by unfold tooLong; simp; omega)))
          have hb : ((q.length : Int) == 48) = false := beq_eq_false_iff_ne.2 (by omega)
          clear h48
          have HO := Lib.hid (own_any p q (.agg #[.slice a p.length cap, .slice a' q.length cap']) W1 (by omega) (by omega) (HD.out.later hW1 (Nat.le_refl _)))
          go_wp2_with (first
            | (go_at_call 52; refine (place_any _ _).mono ?_; rintro e w' ⟨rfl, rfl⟩; rw [HPL.out])
            | (go_at_call 41; refine HO.out.mono ?_; rintro e w2 ⟨u, rfl, ⟨x, y, rfl, hx, hy⟩, hb2⟩; obtain ⟨b1, k1, rfl⟩ := own_slice hx; obtain ⟨b2, k2, rfl⟩ := own_slice hy; have hB2 := hB1.later hb2 (by omega); have hR2 := hR1.later hb2 hz1; obtain ⟨e0, e1, i0, i1⟩ := id hB2; obtain ⟨j0, j1, l0, l1⟩ := id hR2; have hz2 := Nat.lt_of_lt_of_le hz1 hb2.size)
            | (at_builtin; go_must (refine push (w0 := w) elWrites (.tmp 33) (.tmp 37) rfl rfl _ _ _ rfl (own_set (own_set hy (by simp <;> omega) _) (by simp <;> omega) _) (((chain hW1 hb2).setCell (by simp <;> omega) _).setCell (by simp <;> omega) _) (by omega) (by simpa using hb2.size) [.int .i64 n, .string s] (by simp [Act.eval]) rfl ?_ ?_ ?_)))
          · intro u hu; simp at hu; rcases hu with rfl | rfl <;> rfl
          · omega
          · intro v' w3 hown hbel hgr _
            obtain ⟨b3, k3, rfl⟩ := own_slice hown
            have hB3 := (hB2.stored (.slice b1 p.length k1) (.slice b2 q.length k2)).grown (own_set (own_set hy (by simp <;> omega) _) (by simp <;> omega) _) hgr (by omega) (by simp <;> omega)
            have hR3 := ((hR2.other (a := ⟨w.heap.size, 0, none⟩) (by simp) (.slice b1 p.length k1)).other (a := ⟨w.heap.size, 1, none⟩) (by simp) (.slice b2 q.length k2)).grown (own_set (own_set hy (by simp <;> omega) _) (by simp <;> omega) _) hgr (by omega) (by simp <;> omega)
            have hx3 := own_apart (own_set (own_set hx (a := ⟨w.heap.size, 0, none⟩) (by simp <;> omega) (.slice b1 p.length k1)) (a := ⟨w.heap.size, 1, none⟩) (by simp <;> omega) (.slice b2 q.length k2)) (own_set (own_set hy (by simp <;> omega) _) (by simp <;> omega) _) (by decide) hgr
            have hz3 : w.heap.size + 1 < w3.heap.size := by have := hgr.size; simp at this; omega
            obtain ⟨m0, m1, o0, o1⟩ := id hB3
            obtain ⟨r0, r1, s0, s1⟩ := id hR3
            go_wp2_with fail
            refine bodyPost_ret (v := .tuple #[.agg #[.slice b1 p.length k1, .slice b3 (q.length + 1) k3], .int .i64 0]) (by simp [results, Try.results62, go_sem, r0, r1]) rfl ⟨_, by rw [HE.out], ?_, ?_⟩
            · rw [(writeP_yes HE.out).1, (writeP_yes HE.out).2]
              refine OwnDisk.mono (B := W1.heap.size) ⟨_, _, rfl, own_set (own_set (own_set hx3 (by simp <;> omega) _) (by simp <;> omega) _) (by simp <;> omega) _, ?_⟩ (by omega)
              have e : wrCells (q ++ [(n, s)]) = wrCells q ++ [.int .i64 n, .string s] := wrCells_snoc q (n, s)
              rw [e, List.length_append]
              exact own_set (own_set (own_set hown (by simp <;> omega) _) (by simp <;> omega) _) (by simp <;> omega) _
            · exact ((hbel.setCell (by simp <;> omega) _).setCell (by simp <;> omega) _).setCell (by simp <;> omega) _
  · have HE := Lib.hid (show writeE p q n s = check p q from if_pos hce)
    have hnz : (check p q != 0) = true := by rw [bne_iff_ne]; exact hce
    have HNZ := Lib.hid hce
    clear hce
    go_wp2_with fail
    refine bodyPost_ret (v := .tuple #[.agg #[.slice none 0 0, .slice none 0 0], .int .i64 (check p q)]) (by simp [results, Try.results62, go_sem, d0, d1]) rfl ⟨_, by rw [HE.out], ownNo (by rw [HE.out]; exact HNZ.out) _ _, (hW1.setCell (by simp <;> omega) _).setCell (by simp <;> omega) _⟩

end Go.Proofs.Ytohlkegmmbdlaaa.DiskP
