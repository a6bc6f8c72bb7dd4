/- Sync, Crash, Write: the program's -/
import Derived.Test.YtohlkegmmbdlaaaDiskSettle
namespace Go.Proofs.Ytohlkegmmbdlaaa.DiskP
open Go.RowKit K

theorem OwnDisk.slices {w : World} {B : Nat} {d : Value} {p : List ByteArray} {q : List Wr} (h : OwnDisk w B d p q) : ∃ a k b l, d = .agg #[.slice a p.length k, .slice b q.length l] := by
  obtain ⟨x, y, rfl, hx, hy⟩ := h
  obtain ⟨a, k, rfl⟩ := own_slice hx
  obtain ⟨b, l, rfl⟩ := own_slice hy
  exact ⟨a, k, b, l, rfl⟩
theorem OwnDisk.set {w : World} {B : Nat} {d : Value} {p : List ByteArray} {q : List Wr} (h : OwnDisk w B d p q) {a : Addr} (ha : a.block < B) (x : Value) : OwnDisk (w.setCell a x) B d p q := by
  obtain ⟨vp, vq, h1, h2, h3⟩ := h
  exact ⟨vp, vq, h1, own_set h2 ha _, own_set h3 ha _⟩

set_option maxRecDepth 100000 in
theorem sync_any (p : List ByteArray) (q : List Wr) (d : Value) (w : World) (hd : IsDisk w d p q) :
    Calls Try.prog 64 #[d] w fun e w' => ∃ u, e = .returned (.tuple #[u, .int .i64 (check p q)]) ∧ OwnDisk w' w.heap.size u (settleP p q (fun _ => true)) [] ∧ Below w.heap.size w w' := by
  obtain ⟨vp, vq, rfl, hsp, hsq⟩ := id hd
  obtain ⟨_, a, cap, rfl, _, _, _, _⟩ := id hsp
  obtain ⟨_, a', cap', rfl, _, _, _, _⟩ := id hsq
  have hW0 := alloc_below w (.cells #[Value.slice a p.length cap, Value.slice a' q.length cap'] 25)
  have hW := chain hW0 (alloc_below (w.alloc (.cells #[Value.slice a p.length cap, Value.slice a' q.length cap'] 25)) (.cells #[.slice none 0 0, .slice none 0 0] 25))
  have hR := Res2.new (w.alloc (.cells #[Value.slice a p.length cap, Value.slice a' q.length cap'] 25)) (.slice none 0 0) (.slice none 0 0) 25
  rw [World.size_alloc] at hR
  have hz : w.heap.size + 1 < ((w.alloc (.cells #[Value.slice a p.length cap, Value.slice a' q.length cap'] 25)).alloc (.cells #[.slice none 0 0, .slice none 0 0] 25)).heap.size := by simp
  have hC := Lib.hid (settlesync_any p q (.agg #[.slice a p.length cap, .slice a' q.length cap']) _ (hd.later hW (Nat.le_refl _)))
  clear hd hsp hsq hW0
  go_enter Try.func64, Try.ntmps64
  go_wp2_with fail
  generalize ((w.alloc (.cells #[Value.slice a p.length cap, Value.slice a' q.length cap'] 25)).alloc (.cells #[.slice none 0 0, .slice none 0 0] 25)) = W at *
  refine hC.out.mono ?_
  rintro e w1 ⟨u, rfl, hu, hb1⟩
  obtain ⟨b1, k1, b2, k2, rfl⟩ := hu.slices
  obtain ⟨d0, d1, f0, f1⟩ := hR.later hb1 hz
  go_wp2_with fail
  refine bodyPost_ret (v := .tuple #[.agg #[.slice b1 (settleP p q (fun _ => true)).length k1, .slice b2 0 k2], .int .i64 (check p q)]) (by simp [results, Try.results64, go_sem, d0, d1]) rfl ⟨_, rfl, ?_, ?_⟩
  · exact ((hu.set (by simpa using hz) _).set (by simpa using hz) _).mono (by omega)
  · exact ((chain hW hb1).setCell (by simp <;> omega) _).setCell (by simp <;> omega) _

set_option maxRecDepth 100000 in
theorem crash_any (p : List ByteArray) (q : List Wr) (d : Value) (m : Int) (hm1 : 0 ≤ m) (hm2 : m ≤ 18446744073709551615) (w : World) (hd : IsDisk w d p q) :
    Calls Try.prog 27 #[d, .int .u64 m] w fun e w' => ∃ u, e = .returned (.tuple #[u, .int .i64 (check p q)]) ∧ OwnDisk w' w.heap.size u (settleP p q (bitAt m)) [] ∧ Below w.heap.size w w' := by
  obtain ⟨vp, vq, rfl, hsp, hsq⟩ := id hd
  obtain ⟨_, a, cap, rfl, _, _, _, _⟩ := id hsp
  obtain ⟨_, a', cap', rfl, _, _, _, _⟩ := id hsq
  have hW0 := alloc_below w (.cells #[Value.slice a p.length cap, Value.slice a' q.length cap'] 25)
  have hW1 := chain hW0 (alloc_below (w.alloc (.cells #[Value.slice a p.length cap, Value.slice a' q.length cap'] 25)) (.cells #[.int .u64 m] 46))
  have hcm := cell_new (w.alloc (.cells #[Value.slice a p.length cap, Value.slice a' q.length cap'] 25)) (.int .u64 m) 46
  have hR := Res2.new ((w.alloc (.cells #[Value.slice a p.length cap, Value.slice a' q.length cap'] 25)).alloc (.cells #[.int .u64 m] 46)) (.slice none 0 0) (.slice none 0 0) 25
  have hW2 := alloc_below ((w.alloc (.cells #[Value.slice a p.length cap, Value.slice a' q.length cap'] 25)).alloc (.cells #[.int .u64 m] 46)) (.cells #[.slice none 0 0, .slice none 0 0] 25)
  have hcm := (hW2.cell (p := ⟨(w.alloc (.cells #[Value.slice a p.length cap, Value.slice a' q.length cap'] 25)).heap.size, 0, none⟩) (by simp)).trans hcm
  rw [World.size_alloc] at hcm
  rw [World.size_alloc, World.size_alloc] at hR
  have hW := chain hW1 hW2
  have hz : w.heap.size + 2 < (((w.alloc (.cells #[Value.slice a p.length cap, Value.slice a' q.length cap'] 25)).alloc (.cells #[.int .u64 m] 46)).alloc (.cells #[.slice none 0 0, .slice none 0 0] 25)).heap.size := by simp
  have hC := Lib.hid (settlecrash_any p q (.agg #[.slice a p.length cap, .slice a' q.length cap']) m hm1 hm2 (w.heap.size + 1) _ (hd.later hW (Nat.le_refl _)) hcm (by simp))
  clear hd hsp hsq hW0 hW1 hW2 hcm
  go_enter Try.func27, Try.ntmps27
  go_wp2_with fail
  generalize (((w.alloc (.cells #[Value.slice a p.length cap, Value.slice a' q.length cap'] 25)).alloc (.cells #[.int .u64 m] 46)).alloc (.cells #[.slice none 0 0, .slice none 0 0] 25)) = W at *
  refine hC.out.mono ?_
  rintro e w1 ⟨u, rfl, hu, hb1⟩
  obtain ⟨b1, k1, b2, k2, rfl⟩ := hu.slices
  obtain ⟨d0, d1, f0, f1⟩ := hR.later hb1 hz
  go_wp2_with fail
  refine bodyPost_ret (v := .tuple #[.agg #[.slice b1 (settleP p q (bitAt m)).length k1, .slice b2 0 k2], .int .i64 (check p q)]) (by simp [results, Try.results27, go_sem, d0, d1]) rfl ⟨_, rfl, ?_, ?_⟩
  · exact ((hu.set (by simpa using hz) _).set (by simpa using hz) _).mono (by omega)
  · exact ((chain hW hb1).setCell (by simp <;> omega) _).setCell (by simp <;> omega) _

end Go.Proofs.Ytohlkegmmbdlaaa.DiskP
