/- a disk that was handed in, opened -/
import Derived.Test.YtohlkegmmbdlaaaReads
import Derived.Test.YtohlkegmmbdlaaaDiskSame
namespace Go.Proofs.Ytohlkegmmbdlaaa.DiskP
open Go.RowKit K Go.ChangeShapes Go.WideShapes

def writeOk (x : WriteD) : Prop := (-9223372036854775808 ≤ x.1 ∧ x.1 ≤ 9223372036854775807) ∧ ((x.2).size ≤ 140737488351232)
theorem opens_write : Opens Try.prog 56 2 (fun _ cs x => cs = writeOf x) writeOk := by
  refine ⟨by kernel_rfl, by decide, ?_⟩
  intro H enc w spare held fuel cs x h hl
  have ht : Try.prog.underlying 56 = some (.struct (Try.prog.fieldsOf 56)) := by kernel_rfl
  have hlen := struct_len ht h
  rw [show Try.prog.cellsOf 56 = 2 by kernel_rfl] at hlen
  obtain ⟨a0, e0, k0⟩ := field_of ht h hl 0 3 0 1 (by kernel_rfl) (opens_i64 Try.underlying3 (by kernel_rfl))
  obtain ⟨a1, e1, k1⟩ := field_of ht h hl 1 9 1 1 (by kernel_rfl) (opens_string Try.underlying9 (by kernel_rfl))
  obtain ⟨c0, c1, rfl⟩ := cells2 hlen
  obtain rfl : c0 = _ := by simpa using e0
  obtain rfl : c1 = _ := by simpa using e1
  exact ⟨rfl, (a0, a1), rfl, ⟨k0, k1⟩⟩


def DiskR (w : World) (cs : List Value) (x : List ByteArray × List Wr) : Prop :=
  ∃ vp vq, cs = [vp, vq] ∧ Seen w vp x.1.length 1 (x.1.map Value.string) ∧ Seen w vq x.2.length 2 (wrCells x.2)
def DiskOk (x : List ByteArray × List Wr) : Prop := (x.1.length * 16 ≤ 140737488351232 ∧ ∀ s ∈ x.1, s.size ≤ 140737488351232) ∧ (x.2.length * 24 ≤ 140737488351232 ∧ ∀ y ∈ x.2, writeOk y)
theorem opens_disk : Opens Try.prog 25 2 DiskR DiskOk := by
  refine ⟨by kernel_rfl, by decide, ?_⟩
  intro H enc w spare held fuel cs x h hl
  have ht : Try.prog.underlying 25 = some (.struct (Try.prog.fieldsOf 25)) := by kernel_rfl
  have hlen := struct_len ht h
  rw [show Try.prog.cellsOf 25 = 2 by kernel_rfl] at hlen
  obtain ⟨p, hp, okp⟩ := field_of ht h hl 0 22 0 1 (by kernel_rfl) (opens_slice Try.underlying22 (by kernel_rfl) (opens_string Try.underlying9 (by kernel_rfl)))
  obtain ⟨q, hq, okq⟩ := field_of ht h hl 1 23 1 1 (by kernel_rfl) (opens_slice Try.underlying23 (by kernel_rfl) opens_write)
  rw [show Try.prog.bytesOf 9 = 16 by kernel_rfl] at okp
  rw [show Try.prog.bytesOf 56 = 24 by kernel_rfl] at okq
  obtain ⟨c0, c1, rfl⟩ := cells2 hlen
  obtain ⟨v0, e0, s0⟩ := hp
  obtain ⟨v1, e1, s1⟩ := hq
  obtain rfl : c0 = v0 := by simpa using e0
  obtain rfl : c1 = v1 := by simpa using e1
  exact ⟨rfl, (p, q), ⟨c0, c1, rfl, s0.flat1, s1.flat⟩, okp, okq⟩
theorem DiskR.is {w : World} {v : Value} {x : List ByteArray × List Wr} (hu : v = .agg v.cells.toList.toArray) (h : DiskR w v.cells.toList x) : IsDisk w v x.1 x.2 := by
  obtain ⟨vp, vq, e, h1, h2⟩ := h
  rw [e] at hu
  exact ⟨vp, vq, hu, h1, h2⟩

end Go.Proofs.Ytohlkegmmbdlaaa.DiskP
