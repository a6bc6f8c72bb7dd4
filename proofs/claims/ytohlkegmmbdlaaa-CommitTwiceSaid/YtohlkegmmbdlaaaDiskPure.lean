/- disks, plainly -/
import Derived.Test.YtohlkegmmbdlaaaSlice
namespace Go.Proofs.Ytohlkegmmbdlaaa.DiskP
open Go.RowKit K

abbrev Wr := Int × ByteArray
def wrCells (q : List Wr) : List Value := q.flatMap fun x => [Value.int .i64 x.1, Value.string x.2]
/-- a disk's value: pages p, what waits q -/
def IsDisk (w : World) (d : Value) (p : List ByteArray) (q : List Wr) : Prop :=
  ∃ vp vq, d = .agg #[vp, vq] ∧ Seen w vp p.length 1 (p.map Value.string) ∧ Seen w vq q.length 2 (wrCells q)

theorem wrCells_len (q : List Wr) : (wrCells q).length = q.length * 2 := by
  induction q with
  | nil => rfl
  | cons x q ih => unfold wrCells at ih ⊢; rw [List.flatMap_cons, List.length_append, ih, List.length_cons]; simp; omega
theorem wrCells_at (q : List Wr) (k : Nat) (hk : k < q.length) : (wrCells q)[k * 2]? = some (.int .i64 q[k].1) ∧ (wrCells q)[k * 2 + 1]? = some (.string q[k].2) := by
  induction q generalizing k with
  | nil => simp at hk
  | cons x q ih =>
    unfold wrCells at ih ⊢
    rw [List.flatMap_cons]
    cases k with
    | zero => simp
    | succ k =>
      have := ih k (by simpa using hk)
      rw [List.getElem?_append_right (by simp; omega), List.getElem?_append_right (by simp; omega)]
      simpa [Nat.add_mul, Nat.add_right_comm] using this

theorem IsDisk.later {w w' : World} {d : Value} {p : List ByteArray} {q : List Wr} {B : Nat} (h : IsDisk w d p q) (hb : Below B w w') (hB : w.heap.size ≤ B) : IsDisk w' d p q := by
  obtain ⟨vp, vq, h1, h2, h3⟩ := h
  exact ⟨vp, vq, h1, h2.later hb hB, h3.later hb hB⟩

def tooLong (s : ByteArray) : Bool := decide (260 < s.size)
def inPlace (n : Int) : Bool := decide (0 ≤ n) && decide (n < 32)
/-- the first fault of writes that wait -/
def badWait : List Wr → Int
  | [] => 0
  | x :: q => if inPlace x.1 then (if tooLong x.2 then 2 else badWait q) else 3
def lastBlank (p : List ByteArray) : Bool := decide (0 < p.length) && decide ((p.getD (p.length - 1) ByteArray.empty).size = 0)
def check (p : List ByteArray) (q : List Wr) : Int :=
  if 32 < p.length ∨ p.any tooLong then 2 else if lastBlank p then 1 else if 48 < q.length then 2 else badWait q

end Go.Proofs.Ytohlkegmmbdlaaa.DiskP
