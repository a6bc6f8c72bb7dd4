/- the reference on disks: what is the same, what is read, what lands -/
import Derived.Test.YtohlkegmmbdlaaaDiskRefs
import Derived.Test.YtohlkegmmbdlaaaDiskCrash
namespace Go.Proofs.Ytohlkegmmbdlaaa.DiskP
open Go.RowKit K

def sameD (p q : List ByteArray × List Wr) : Bool := decide (p.1 = q.1) && decide (p.2 = q.2)
theorem sameD_self (p : List ByteArray × List Wr) : sameD p p = true := by unfold sameD; simp

set_option maxRecDepth 100000 in
theorem samedisk_any (p p' : List ByteArray) (q q' : List Wr) (d d' : Value) (w : World) (hd : IsDisk w d p q) (hd' : IsDisk w d' p' q') :
    Calls Try.prog 44 #[d, d'] w fun e w' => e = .returned (.bool (sameD (p, q) (p', q'))) ∧ Below w.heap.size w w' := by
  obtain ⟨vp, vq, rfl, hsp, hsq⟩ := hd
  obtain ⟨_, a, cap, rfl, _, _, _, _⟩ := id hsp
  obtain ⟨_, a', cap', rfl, _, _, _, _⟩ := id hsq
  obtain ⟨vp', vq', rfl, hsp', hsq'⟩ := hd'
  obtain ⟨_, c, kap, rfl, _, _, _, _⟩ := id hsp'
  obtain ⟨_, c', kap', rfl, _, _, _, _⟩ := id hsq'
  have hW0 := alloc_below w (.cells #[Value.slice a p.length cap, Value.slice a' q.length cap'] 25)
  have hW1 := alloc_below (w.alloc (.cells #[Value.slice a p.length cap, Value.slice a' q.length cap'] 25)) (.cells #[Value.slice c p'.length kap, Value.slice c' q'.length kap'] 25)
  have hW := chain hW0 hW1
  have hB := (Res2.new w (Value.slice a p.length cap) (Value.slice a' q.length cap') 25).later hW1 (by simp)
  have hR := Res2.new (w.alloc (.cells #[Value.slice a p.length cap, Value.slice a' q.length cap'] 25)) (Value.slice c p'.length kap) (Value.slice c' q'.length kap') 25
  rw [World.size_alloc] at hR
  have hz : w.heap.size + 1 < ((w.alloc (.cells #[Value.slice a p.length cap, Value.slice a' q.length cap'] 25)).alloc (.cells #[Value.slice c p'.length kap, Value.slice c' q'.length kap'] 25)).heap.size := by simp
  have hC := Lib.hid (sametexts_any p p' _ _ _ (hsp.later hW (Nat.le_refl _)) (hsp'.later hW (Nat.le_refl _)))
  have hQ := Lib.hid (And.intro hsq hsq')
  clear hsp hsq hsp' hsq' hW0 hW1
  go_enter Try.func44, Try.ntmps44
  go_wp2_with fail
  generalize ((w.alloc (.cells #[Value.slice a p.length cap, Value.slice a' q.length cap'] 25)).alloc (.cells #[Value.slice c p'.length kap, Value.slice c' q'.length kap'] 25)) = W at *
  refine hC.out.mono ?_
  rintro e w1 ⟨rfl, hb1⟩
  have hw1 := chain hW hb1
  obtain ⟨c0, c1, _, _⟩ := hB.later hb1 (by omega)
  obtain ⟨d0, d1, _, _⟩ := hR.later hb1 hz
  have HC := Lib.hid (samewrites_any q q' _ _ w1 (hQ.out.1.later hw1 (Nat.le_refl _)) (hQ.out.2.later hw1 (Nat.le_refl _)))
  have hs : Hid (sameD (p, q) (p', q') = (decide (p = p') && decide (q = q'))) := rfl
  cases hpp : decide (p = p')
  all_goals
    have HPP := Lib.hid hpp
    clear hpp
    go_wp2_with (go_at_call 67; refine HC.out.mono ?_; rintro e w2 ⟨rfl, hb2⟩)
    go_ret
  · exact ⟨by rw [hs.out, HPP.out] <;> rfl, hw1⟩
  · exact ⟨by rw [hs.out, HPP.out, Bool.true_and] <;> rfl, chain hw1 hb2⟩

end Go.Proofs.Ytohlkegmmbdlaaa.DiskP
