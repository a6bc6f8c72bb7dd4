/- the reference on disks: a page, the last write to it -/
import Derived.Test.YtohlkegmmbdlaaaDiskCheck
namespace Go.Proofs.Ytohlkegmmbdlaaa.DiskP
open Go.RowKit K

def pageAt (p : List ByteArray) (n : Int) : ByteArray := if 0 ≤ n then p.getD n.toNat ⟨#[]⟩ else ⟨#[]⟩
/-- the last write to a page among those of the mask -/
def lastOf (s : ByteArray) : List Wr → Int → Int → ByteArray
  | [], _, _ => s
  | x :: q, m, n => lastOf (if (x.1 == n && m % 2 == 1) = true then x.2 else s) q (m / 2) n

set_option maxRecDepth 100000 in
theorem pageat_any (p : List ByteArray) (v : Value) (n : Int) (w : World) (hs : Seen w v p.length 1 (p.map Value.string)) :
    Calls Try.prog 35 #[v, .int .i64 n] w fun e w' => e = .returned (.string (pageAt p n)) ∧ w = w' := by
  obtain ⟨_, a, cap, rfl, hc, hm, hnil, hcells⟩ := id hs
  unfold maxLen at hm
  by_cases h0 : 0 ≤ n
  · obtain ⟨k, rfl⟩ := Int.eq_ofNat_of_zero_le h0
    have d1 : decide ((k : Int) < 0) = false := decide_eq_false (by omega)
    by_cases hk : k < p.length
    · obtain ⟨b, off, rfl, hb, hcl⟩ := hcells.resolve_left (by omega)
      have hcell : w.cell? ⟨b, off + k, none⟩ = some (.string p[k]) := seen_cell hs (by omega) k _ (by simp [hk])
      have d2 : decide (p.length ≤ k) = false := decide_eq_false (by omega)
      have hr : pageAt p (k : Int) = p[k] := by unfold pageAt; rw [if_pos h0]; simp [hk]
      rw [hr]
      go_enter Try.func35, Try.ntmps35
      go_wp2_with fail
      go_ret
      exact ⟨rfl, rfl⟩
    · have d2 : decide (p.length ≤ k) = true := decide_eq_true (by omega)
      have hr : pageAt p (k : Int) = ⟨#[]⟩ := by
        unfold pageAt; rw [if_pos h0, List.getD_eq_getElem?_getD, List.getElem?_eq_none (by simp; omega)]; rfl
      rw [hr]
      go_enter Try.func35, Try.ntmps35
      go_wp2_with fail
      go_ret
      exact ⟨rfl, rfl⟩
  · have d1 : decide (n < 0) = true := decide_eq_true (by omega)
    have hr : pageAt p n = ⟨#[]⟩ := if_neg h0
    rw [hr]
    go_enter Try.func35, Try.ntmps35
    go_wp2_with fail
    go_ret
    exact ⟨rfl, rfl⟩

theorem lastOf_drop (s : ByteArray) (q : List Wr) (k : Nat) (hk : k < q.length) (m n : Int) :
    lastOf s (q.drop k) m n = lastOf (if (q[k].1 == n && m % 2 == 1) = true then q[k].2 else s) (q.drop (k + 1)) (m / 2) n := by
  rw [List.drop_eq_getElem_cons hk]; rfl

set_option maxRecDepth 100000 in
set_option maxHeartbeats 1000000 in
theorem lastof_any (p : List ByteArray) (q : List Wr) (vp vq : Value) (m : Int) (hm0 : 0 ≤ m) (hm64 : m ≤ 18446744073709551615) (n : Int) (w : World)
    (hp : Seen w vp p.length 1 (p.map Value.string)) (hq : Seen w vq q.length 2 (wrCells q)) :
    Calls Try.prog 49 #[vp, vq, .int .u64 m, .int .i64 n] w fun e w' => e = .returned (.string (lastOf (pageAt p n) q m n)) ∧ w = w' := by
  obtain ⟨_, a, cap, rfl, hc, hm, hnil, hcells⟩ := id hq
  unfold maxLen at hm
  have hpg := Lib.hid (pageat_any p vp n w hp)
  go_enter Try.func49, Try.ntmps49
  go_wp2_with (go_at_call 35; refine hpg.out.mono ?_; rintro e w' ⟨rfl, rfl⟩)
  clear hpg
  go_loop [2, 9, 10] (fun j2 j9 j10 => ∃ (k : Nat) (m' : Int) (s : ByteArray), k ≤ q.length ∧ 0 ≤ m' ∧ m' ≤ 18446744073709551615 ∧ j2 = .int .u64 m' ∧ j9 = .string s ∧ j10 = .int .i64 (k : Int) ∧ Hid (lastOf (pageAt p n) q m n = lastOf s (q.drop k) m' n))
    (fun _ _ j => q.length - (intOf j).toNat)
  case atStart => exact ⟨0, m, _, by omega, hm0, hm64, rfl, rfl, rfl, rfl⟩
  case round =>
    obtain ⟨k, m', s, hk, hm1, hm2, rfl, rfl, rfl, hl⟩ := hrel
    by_cases h : k < q.length
    · obtain ⟨b, off, rfl, hb, hcl⟩ := hcells.resolve_left (by omega)
      have c0 := seen_cell hq (by omega) _ _ (wrCells_at q k h).1
      have c1 := seen_cell hq (by omega) _ _ (wrCells_at q k h).2
      rw [← Nat.add_assoc] at c1
      have hl := hl.out
      rw [lastOf_drop s q k h m' n] at hl
      have HL := Lib.hid hl
      clear hl hcl hcells hq hp
      generalize q[k].1 = a at *
      generalize q[k].2 = t at *
      cases x1 : (a == n) <;> cases x2 : (m' % 2 == 1)
      all_goals
        have HL := HL.out
        rw [x1, x2] at HL
        have HL := Lib.hid HL
        go_wp2_with fail
        go_round
        case rel => exact ⟨k + 1, m' / 2, _, by omega, by omega, by omega, rfl, rfl, by go_num, HL.out⟩
        case measure => simp [intOf]; omega
    · obtain rfl : k = q.length := by omega
      have hl := hl.out
      rw [List.drop_length] at hl
      have H := Lib.hid hl
      clear hl
      go_wp2_with fail
      go_ret
      exact ⟨by rw [H.out]; rfl, rfl⟩

end Go.Proofs.Ytohlkegmmbdlaaa.DiskP
