/- the reference's Turned: bits of a text turned -/
import Derived.Test.YthenhfhffnjflaaDoorSumLaws
namespace Go.Proofs.YthenhfhffnjflaaDoor.SumW
open Go.RowKit SumP K

/-- byte i of a text with bit j of it turned -/
def flip (l : List UInt8) (p : Nat) : List UInt8 := l.set (p / 8) (l.getD (p / 8) 0 ^^^ UInt8.ofNat (2 ^ (p % 8)))

/-- the first n bits of the mask turned -/
def turn (l : List UInt8) (at_ : Nat) (m : W) : Nat → List UInt8
  | 0 => l
  | n + 1 => if m.getLsbD n && decide (at_ + n < 8 * l.length) then flip (turn l at_ m n) (at_ + n) else turn l at_ m n

theorem flip_len (l : List UInt8) (p : Nat) : (flip l p).length = l.length := by simp [flip]
theorem turn_len (l : List UInt8) (at_ : Nat) (m : W) (n : Nat) : (turn l at_ m n).length = l.length := by
  induction n with
  | zero => rfl
  | succ n ih => simp only [turn]; split <;> simp [flip_len, ih]

/-- what Turned returns -/
def turned (l : List UInt8) (at_ : Int) (m : W) : List UInt8 :=
  if at_ < 0 ∨ 8 * (l.length : Int) ≤ at_ then l else turn l at_.toNat m 32

theorem bit_at (m : W) (k : Nat) : bits .and .u32 (((m.toNat : Nat) : Int) / 2 ^ k) 1 = (((m.getLsbD k).toNat : Nat) : Int) := by
  have h := m.isLt
  have e : ((m.toNat : Nat) : Int) / 2 ^ k = ((m.toNat / 2 ^ k : Nat) : Int) := by
    rw [Int.natCast_ediv]; congr 1
  have hlt : m.toNat / 2 ^ k < 4294967296 := Nat.lt_of_le_of_lt (Nat.div_le_self _ _) h
  rw [e, show (1 : Int) = ((1 : Nat) : Int) from rfl, u32_and_nat _ _ hlt (by decide), nat_mask1, BitVec.getLsbD, Nat.testBit_eq_decide_div_mod_eq]
  cases h4 : decide (m.toNat / 2 ^ k % 2 = 1) <;> simp at h4 <;> simp <;> omega

theorem flip_byte (x : UInt8) (j : Nat) (hj : j < 8) : bits .xor .u8 ((x.toNat : Nat) : Int) ((2 : Int) ^ j % 256) = (((x ^^^ UInt8.ofNat (2 ^ j)).toNat : Nat) : Int) := by
  have hx := UInt8.toNat_lt x
  have hp : (2 : Nat) ^ j < 256 := by
    have : 2 ^ j ≤ 2 ^ 7 := Nat.pow_le_pow_right (by decide) (by omega)
    omega
  rw [show ((2 : Int) ^ j % 256) = ((2 ^ j : Nat) : Int) by rw [show ((2 : Int) ^ j) = ((2 ^ j : Nat) : Int) from (Int.natCast_pow 2 j).symm]; exact Int.emod_eq_of_lt (Int.natCast_nonneg _) (Int.ofNat_lt.2 hp), u8_xor_nat _ _ (by omega) hp, UInt8.toNat_xor]
  congr 2
  rw [UInt8.toNat_ofNat']; exact (Nat.mod_eq_of_lt hp).symm

def byteV (b : UInt8) : Value := .int .u8 ((b.toNat : Nat) : Int)

set_option maxRecDepth 100000 in
set_option maxHeartbeats 1000000 in
theorem turned_any (s : ByteArray) (at_ : Int) (m : W) (w : World) (hs : s.size ≤ 140737488351232) (a0 : -9223372036854775808 ≤ at_) (a1 : at_ ≤ 9223372036854775807) :
    Calls Tryd.prog 16 #[.string s, .int .i64 at_, .int .u32 (m.toNat : Int)] w fun e w' =>
      e = .returned (.string ⟨(turned s.data.toList at_ m).toArray⟩) ∧ Below w.heap.size w w' := by
  have hu8 := Tryd.underlying5
  have hcv := run_bytes_of_string (P := Tryd.prog) w 9 43 5 s Tryd.underlying9 Tryd.underlying43 hu8
  have hmul : (8 : Int) * (s.size : Int) ≤ 9223372036854775807 := by omega
  have hN : (bytesRow s (grownCap w s.size 0 5)).size = (bytesRow s (grownCap w s.size 0 5)).size := rfl
  have hge : s.size ≤ (bytesRow s (grownCap w s.size 0 5)).size := by
    unfold bytesRow; rw [Array.size_append, Array.size_map]; exact Nat.le_add_right _ _
  have hrow : ∀ j (hj : j < s.size), (bytesRow s (grownCap w s.size 0 5))[j]? = some (byteV s[j]) := fun j hj => bytesRow_at s _ j hj
  generalize bytesRow s (grownCap w s.size 0 5) = c0 at *
  generalize grownCap w s.size 0 5 = cap at *
  have hge' := Lib.hid hge
  have hrow' := Lib.hid hrow
  clear hge hrow hN
  have hbel0 : Below w.heap.size w (w.drew.alloc (.cells c0 5 (c0.size, c0.size + 1))) := ((Below.refl _ _).drew).alloc (Nat.le_refl _) _
  by_cases hat : at_ < 0
  · have ht := Lib.hid (show turned s.data.toList at_ m = s.data.toList from if_pos (.inl hat))
    go_enter Tryd.func16, Tryd.ntmps16
    go_wp2_with fail
    go_ret
    exact ⟨by rw [ht.out]; rfl, hbel0⟩
  by_cases hat2 : 8 * (s.size : Int) ≤ at_
  · have ht := Lib.hid (show turned s.data.toList at_ m = s.data.toList from if_pos (.inr (by simpa using hat2)))
    go_enter Tryd.func16, Tryd.ntmps16
    go_wp2_with fail
    go_ret
    exact ⟨by rw [ht.out]; rfl, hbel0⟩
  obtain ⟨A, rfl⟩ := Int.eq_ofNat_of_zero_le (show 0 ≤ at_ by omega)
  have ht := Lib.hid (show turned s.data.toList (A : Int) m = turn s.data.toList A m 32 from by
    unfold turned; rw [if_neg (by simp; omega)]; rfl)
  have hA : A < 8 * s.size := by omega
  clear a0 a1 hat hat2
  go_enter Tryd.func16, Tryd.ntmps16
  go_wp2_with fail
  go_loopw [8] (fun i wr => ∃ (k : Nat) (cur : Array Value), k ≤ 32 ∧ i = .int .i64 (k : Int) ∧ Below w.heap.size w wr ∧
      wr.heap[w.heap.size]? = some (.cells cur 5 (c0.size, c0.size + 1)) ∧ Hid (cur.size = c0.size ∧ cur.toList.take s.size = (turn s.data.toList A m k).map byteV))
    (fun i _ => 32 - (intOf i).toNat)
  case atStart =>
    refine ⟨0, c0, by omega, rfl, hbel0, heap_alloc_new _ _, rfl, ?_⟩
    show _ = s.data.toList.map byteV
    apply List.ext_getElem?
    intro j
    by_cases hj : j < s.size
    · have h1 : c0.toList[j]? = some (byteV s[j]) := by rw [Array.getElem?_toList]; exact hrow'.out j hj
      have h2 : s.data.toList[j]? = some s[j] := List.getElem?_eq_getElem (by simpa using hj)
      rw [List.getElem?_take_of_lt hj, List.getElem?_map, h1, h2]; rfl
    · rw [List.getElem?_eq_none (by rw [List.length_take]; omega), List.getElem?_eq_none (by simp; omega)]
  case round =>
    obtain ⟨k, cur, hk, rfl, hbel, hrw, hcur⟩ := hrel
    have hbit := bit_at m k
    by_cases hk32 : k < 32
    · by_cases hin : A + k < 8 * s.size
      · have hin' : (A : Int) + (k : Int) < 8 * (s.size : Int) := by omega
        cases hb : m.getLsbD k
        · rw [hb] at hbit
          go_wp2_with fail
          go_roundw
          case rel =>
            refine ⟨k + 1, cur, by omega, by go_num, hbel, hrw, hcur.out.1, ?_⟩
            rw [hcur.out.2]; simp [turn, hb]
          case measure => simp [intOf]; omega
        · rw [hb] at hbit
          obtain ⟨q, d, j, hq, hd, hj⟩ : ∃ q d j : Nat, q = A + k ∧ d = q / 8 ∧ j = q % 8 := ⟨_, _, _, rfl, rfl, rfl⟩
          have hds : d < s.size := by omega
          have hj8 : j < 8 := by omega
          have hl : d < (turn s.data.toList A m k).length := by rw [turn_len]; simpa using hds
          have hcell : wr.cell? ⟨w.heap.size, d, none⟩ = some (byteV (turn s.data.toList A m k)[d]) := by
            rw [cell_of_row _ _ _ _ _ _ hrw]
            have := congrArg (fun l => l[d]?) hcur.out.2
            simp only [List.getElem?_take_of_lt hds, List.getElem?_map, List.getElem?_eq_getElem hl, Option.map_some] at this
            simpa using this
          have hfr : wr.frozen? ⟨w.heap.size, d, none⟩ = false := by
            unfold World.frozen?
            rw [hrw]
            have := hge'.out
            simp; omega
          have hx := flip_byte (turn s.data.toList A m k)[d] j hj8
          have hstep := Lib.hid (show (turn s.data.toList A m (k + 1)) = (turn s.data.toList A m k).set d ((turn s.data.toList A m k)[d] ^^^ UInt8.ofNat (2 ^ j)) by
            subst hd hj hq
            simp only [turn, hb, Array.length_toList]
            rw [if_pos (by simpa using hin), flip]
            congr 2
            simp [List.getD, List.getElem?_eq_getElem hl])
          unfold byteV at hcell
          generalize (turn s.data.toList A m k)[d] = x at *
          generalize hy : x ^^^ UInt8.ofNat (2 ^ j) = y at *
          have hst := Lib.hid (setCell_eq_setRow wr w.heap.size d cur 5 (c0.size, c0.size + 1) (byteV y) hrw)
          unfold byteV at hst
          have e1 : IntKind.i64.wrap ((A : Int) + (k : Int)) = (q : Int) := by rw [IntKind.wrap_i64]; omega
          have e2 : IntKind.i64.wrap ((q : Int).tdiv 8) = (d : Int) := by rw [IntKind.wrap_i64, Int.tdiv_eq_ediv_of_nonneg (by omega)]; omega
          have e3 : (q : Int).tmod 8 = (j : Int) := by rw [Int.tmod_eq_emod_of_nonneg (by omega)]; omega
          have e2' : IntKind.i64.wrap ((q : Int) / 8) = (d : Int) := by rw [IntKind.wrap_i64]; omega
          have e3' : (q : Int) % 8 = (j : Int) := by omega
          have b1 : (0 : Int) ≤ (d : Int) := by omega
          have b5 : (q : Int) < 8 * (s.size : Int) := by omega
          have b2 : (d : Int) < (s.size : Int) := by omega
          have b3 : (0 : Int) ≤ (j : Int) := by omega
          have b4 : (j : Int) < 8 := by omega
          clear hy hq hd hj hin
          go_wp2_with fail
          go_still_tail 14, (by kernel_rfl)
          change wpList _ _ _ _ _ wr.drew
          go_wp2_with fail
          go_roundw
          case rel =>
            rw [hst.out]
            refine ⟨k + 1, cur.setIfInBounds d (byteV y), by omega, by go_num, (below_row hbel _ _ (Nat.le_refl _)).drew, setRow_heap _ _ _ _ _ _ hrw, ?_, ?_⟩
            · simpa using hcur.out.1
            · rw [hstep.out, Array.toList_setIfInBounds, List.take_set, hcur.out.2, List.map_set]
          case measure => simp [intOf]; omega
      · have hin' : 8 * (s.size : Int) ≤ (A : Int) + (k : Int) := by omega
        have hstep := Lib.hid (show turn s.data.toList A m (k + 1) = turn s.data.toList A m k by
          simp only [turn, Array.length_toList]
          rw [if_neg]
          simp; intro _; omega)
        clear hin
        by_cases hb : bits .and .u32 (((m.toNat : Nat) : Int) / 2 ^ k) 1 = 1
        all_goals
          clear hbit
          go_wp2_with fail
          go_roundw
          case rel =>
            refine ⟨k + 1, cur, by omega, by go_num, hbel, hrw, hcur.out.1, ?_⟩
            rw [hcur.out.2, hstep.out]
          case measure => simp [intOf]; omega
    · obtain rfl : k = 32 := by omega
      have hstr := run_text_at (w := wr) (g := w.heap.size) (cap := cap) (bs := turn s.data.toList A m 32) 43 9 5 (cur := cur) (fr := (c0.size, c0.size + 1)) hrw
        (by rw [turn_len, show s.data.toList.length = s.size by simp]; exact hcur.out.2) Tryd.underlying43 hu8 Tryd.underlying9
      rw [turn_len, show s.data.toList.length = s.size by simp] at hstr
      go_wp2_with fail
      go_ret
      exact ⟨by rw [ht.out]; rfl, hbel⟩

end Go.Proofs.YthenhfhffnjflaaDoor.SumW
