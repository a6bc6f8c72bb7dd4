/- what the laws on disks ask in any case -/
import Derived.Test.YtjfamijedcpjcaaDiskRead
import Derived.Test.YtjfamijedcpjcaaDiskWriteOf
import Derived.Test.YtjfamijedcpjcaaBx
namespace Go.Proofs.Ytjfamijedcpjcaa.DiskP
open Go.RowKit K

abbrev S0 : ByteArray := ⟨#[]⟩
abbrev S1 : ByteArray := ⟨#[102]⟩
abbrev P0 : List ByteArray := [⟨#[97]⟩, ⟨#[]⟩, ⟨#[99]⟩]
abbrev Q1 : List Wr := [(2, ⟨#[]⟩)]
abbrev Q2 : List Wr := [(2, ⟨#[]⟩), (5, ⟨#[102]⟩)]
theorem e1 : writeE P0 [] 2 S0 = 0 := by decide +kernel
theorem e2 : writeE P0 Q1 5 S1 = 0 := by decide +kernel
theorem e3 : readR P0 Q2 2 = (S0, 0) := by decide +kernel
theorem e4 : readR P0 Q2 5 = (S1, 0) := by decide +kernel
theorem e5 : check P0 Q2 = 0 := by decide +kernel
theorem e6 : settleP P0 Q2 (bitAt 1) = [⟨#[97]⟩] := by decide +kernel
theorem e7 : settleP P0 Q2 (fun _ => true) = [⟨#[97]⟩, S0, S0, S0, S0, S1] := by decide +kernel
theorem e8 : writeE P0 [] 32 S0 = 3 := by decide +kernel

set_option maxRecDepth 100000 in
set_option maxHeartbeats 2000000 in
set_option linter.unusedVariables false in
theorem begun_any (w : World) :
    Calls Try.prog 15 #[] w fun e w' => e = .returned (.bool true) ∧ Below w.heap.size w w' := by
  have D0 : IsDisk (w.alloc (.cells (strs P0).toArray 9)) (.agg #[.slice (some ⟨w.heap.size, 0, none⟩) 3 3, .slice none 0 0]) P0 [] :=
    ⟨_, _, rfl, Seen.of_own (own_built (B := 0) (strs P0) 3 1 (Nat.zero_le _) (by decide) rfl), Seen.nil _ _⟩
  have C1 := write_any P0 [] _ 2 S0 _ (D0.later (alloc_below _ (.cells #[.slice (some ⟨w.heap.size, 0, none⟩) 3 3, .slice none 0 0] 25)) (Nat.le_refl _))
  rw [(writeP_yes e1).1, (writeP_yes e1).2, e1] at C1
  have HD0 := Lib.hid D0
  clear D0
  have HC1 := Lib.hid C1
  clear C1
  go_enter Try.func15, Try.ntmps15
  go_wp2_with fail
  refine (HC1.out).mono ?_
  rintro e w1 ⟨u1, rfl, hu1, hb1⟩
  have hW1 := chain (chain (alloc_below _ _) (alloc_below _ _)) hb1
  have x1 := (Bx.new _ [.slice (some ⟨w.heap.size, 0, none⟩) 3 3, .slice none 0 0] 25 (w.heap.size + 1) (by simp)).later hb1
  obtain ⟨cx10, cx11, fx10, fx11⟩ := x1.c2
  have lx1 := x1.lt
  obtain ⟨a1, k1, b1, m1, rfl⟩ := hu1.slices
  have HD1 := Lib.hid (HD0.out.later (Below.trans ((alloc_below _ _).mono (Nat.le_refl _)) (hb1.mono (by simp))) (Nat.le_refl _))
  have C2 := write_any P0 Q1 _ 5 S1 _ (hu1.later (alloc_below _ (.cells #[.slice a1 3 k1, .slice b1 1 m1] 25))).is
  rw [(writeP_yes e2).1, (writeP_yes e2).2, e2] at C2
  have HC2 := Lib.hid C2
  clear C2
  go_wp2_with fail
  refine (HC2.out).mono ?_
  rintro e w2 ⟨u2, rfl, hu2, hb2⟩
  clear cx10 cx11 fx10 fx11 lx1
  have hW2 := chain (chain hW1 (alloc_below _ _)) hb2
  replace x1 := (x1.alloc _).later hb2
  have x2 := (Bx.new _ [.slice a1 3 k1, .slice b1 1 m1] 25 (w1.heap.size) (by simp)).later hb2
  obtain ⟨cx10, cx11, fx10, fx11⟩ := x1.c2
  have lx1 := x1.lt
  obtain ⟨cx20, cx21, fx20, fx21⟩ := x2.c2
  have lx2 := x2.lt
  obtain ⟨a2, k2, b2, m2, rfl⟩ := hu2.slices
  have D2 := Lib.hid (hu2.later (alloc_below _ (.cells #[.slice a2 3 k2, .slice b2 2 m2] 25))).is
  have C3 := read_any P0 Q2 _ 2 _ D2.out
  rw [e3] at C3
  have HC3 := Lib.hid C3
  clear C3
  go_wp2_with fail
  refine (HC3.out).mono ?_
  rintro e w3 ⟨rfl, hb3⟩
  clear cx10 cx11 fx10 fx11 lx1 cx20 cx21 fx20 fx21 lx2
  have hW3 := chain (chain hW2 (alloc_below _ _)) hb3
  replace x1 := (x1.alloc _).later hb3
  replace x2 := (x2.alloc _).later hb3
  have x4 := (Bx.new _ [.slice a2 3 k2, .slice b2 2 m2] 25 (w2.heap.size) (by simp)).later hb3
  obtain ⟨cx10, cx11, fx10, fx11⟩ := x1.c2
  have lx1 := x1.lt
  obtain ⟨cx20, cx21, fx20, fx21⟩ := x2.c2
  have lx2 := x2.lt
  obtain ⟨cx40, cx41, fx40, fx41⟩ := x4.c2
  have lx4 := x4.lt
  have D3 := Lib.hid (D2.out.later hb3 (Nat.le_refl _))
  have C4 := read_any P0 Q2 _ 5 _ D3.out
  rw [e4] at C4
  have HC4 := Lib.hid C4
  clear C4
  go_wp2_with fail
  refine (HC4.out).mono ?_
  rintro e w4 ⟨rfl, hb4⟩
  clear cx10 cx11 fx10 fx11 lx1 cx20 cx21 fx20 fx21 lx2 cx40 cx41 fx40 fx41 lx4
  have hW4 := chain hW3 hb4
  replace x1 := x1.later hb4
  replace x2 := x2.later hb4
  replace x4 := x4.later hb4
  obtain ⟨cx10, cx11, fx10, fx11⟩ := x1.c2
  have lx1 := x1.lt
  obtain ⟨cx20, cx21, fx20, fx21⟩ := x2.c2
  have lx2 := x2.lt
  obtain ⟨cx40, cx41, fx40, fx41⟩ := x4.c2
  have lx4 := x4.lt
  have D4 := Lib.hid (D3.out.later hb4 (Nat.le_refl _))
  have C5 := crash_any P0 Q2 _ 1 (by decide) (by decide) _ D4.out
  rw [e5, e6] at C5
  have HC5 := Lib.hid C5
  clear C5
  go_wp2_with fail
  refine (HC5.out).mono ?_
  rintro e w5 ⟨u5, rfl, hu5, hb5⟩
  clear cx10 cx11 fx10 fx11 lx1 cx20 cx21 fx20 fx21 lx2 cx40 cx41 fx40 fx41 lx4
  have hW5 := chain hW4 hb5
  replace x1 := x1.later hb5
  replace x2 := x2.later hb5
  replace x4 := x4.later hb5
  obtain ⟨cx10, cx11, fx10, fx11⟩ := x1.c2
  have lx1 := x1.lt
  obtain ⟨cx20, cx21, fx20, fx21⟩ := x2.c2
  have lx2 := x2.lt
  obtain ⟨cx40, cx41, fx40, fx41⟩ := x4.c2
  have lx4 := x4.lt
  obtain ⟨a5, k5, b5, m5, rfl⟩ := hu5.slices
  have D5 := Lib.hid (D4.out.later (chain hb5 (alloc_below _ (.cells #[.slice a5 1 k5, .slice b5 0 m5] 25))) (Nat.le_refl _))
  have C6 := sync_any P0 Q2 _ _ D5.out
  rw [e5, e7] at C6
  have HC6 := Lib.hid C6
  clear C6
  go_wp2_with fail
  refine (HC6.out).mono ?_
  rintro e w6 ⟨u6, rfl, hu6, hb6⟩
  clear cx10 cx11 fx10 fx11 lx1 cx20 cx21 fx20 fx21 lx2 cx40 cx41 fx40 fx41 lx4
  have hW6 := chain (chain hW5 (alloc_below _ _)) hb6
  replace x1 := (x1.alloc _).later hb6
  replace x2 := (x2.alloc _).later hb6
  replace x4 := (x4.alloc _).later hb6
  have x10 := (Bx.new _ [.slice a5 1 k5, .slice b5 0 m5] 25 (w5.heap.size) (by simp)).later hb6
  obtain ⟨cx10, cx11, fx10, fx11⟩ := x1.c2
  have lx1 := x1.lt
  obtain ⟨cx20, cx21, fx20, fx21⟩ := x2.c2
  have lx2 := x2.lt
  obtain ⟨cx40, cx41, fx40, fx41⟩ := x4.c2
  have lx4 := x4.lt
  obtain ⟨cx100, cx101, fx100, fx101⟩ := x10.c2
  have lx10 := x10.lt
  obtain ⟨a6, k6, b6, m6, rfl⟩ := hu6.slices
  have hu5 := hu5.later (chain (alloc_below _ (.cells #[.slice a5 1 k5, .slice b5 0 m5] 25)) hb6)
  have HDx := Lib.hid (HD1.out.later (chain (alloc_below _ _) (chain hb2 (chain (alloc_below _ _) (chain hb3 (chain hb4 (chain hb5 (chain (alloc_below _ _) (chain hb6 (alloc_below _ (.cells #[.slice a6 6 k6, .slice b6 0 m6] 25))))))))) ) (Nat.le_refl _))
  have C7 := write_any P0 [] _ 32 S0 _ HDx.out
  rw [(writeP_no (by rw [e8]; decide)).1, (writeP_no (by rw [e8]; decide)).2, e8] at C7
  have HC7 := Lib.hid C7
  clear C7
  go_wp2_with fail
  refine (HC7.out).mono ?_
  rintro e w7 ⟨u7, rfl, hu7, hb7⟩
  clear cx10 cx11 fx10 fx11 lx1 cx20 cx21 fx20 fx21 lx2 cx40 cx41 fx40 fx41 lx4 cx100 cx101 fx100 fx101 lx10
  have hW7 := chain (chain hW6 (alloc_below _ _)) hb7
  replace x1 := (x1.alloc _).later hb7
  replace x2 := (x2.alloc _).later hb7
  replace x4 := (x4.alloc _).later hb7
  replace x10 := (x10.alloc _).later hb7
  have x12 := (Bx.new _ [.slice a6 6 k6, .slice b6 0 m6] 25 (w6.heap.size) (by simp)).later hb7
  obtain ⟨cx10, cx11, fx10, fx11⟩ := x1.c2
  have lx1 := x1.lt
  obtain ⟨cx20, cx21, fx20, fx21⟩ := x2.c2
  have lx2 := x2.lt
  obtain ⟨cx40, cx41, fx40, fx41⟩ := x4.c2
  have lx4 := x4.lt
  obtain ⟨cx100, cx101, fx100, fx101⟩ := x10.c2
  have lx10 := x10.lt
  obtain ⟨cx120, cx121, fx120, fx121⟩ := x12.c2
  have lx12 := x12.lt
  obtain ⟨a7, k7, b7, m7, rfl⟩ := hu7.slices
  have hu5 := hu5.later (chain (alloc_below _ (.cells #[.slice a6 6 k6, .slice b6 0 m6] 25)) hb7)
  have hu6 := hu6.later (chain (alloc_below _ (.cells #[.slice a6 6 k6, .slice b6 0 m6] 25)) hb7)
  have HS1 := Lib.hid (samedisk_any [⟨#[97]⟩] [⟨#[97]⟩] [] [] _ _ ((w7.alloc (.cells #[.slice a7 0 k7, .slice b7 0 m7] 25)).alloc (.cells (strs [⟨#[97]⟩]).toArray 9)) (hu5.later (chain (alloc_below _ _) (alloc_below _ _))).is
    ⟨_, _, rfl, Seen.of_own (own_built' (B := 0) (strs [⟨#[97]⟩]) 1 1 (w7.heap.size + 1) (by simp) (Nat.zero_le _) (by decide) rfl), Seen.nil _ _⟩)
  rw [sameD_self] at HS1
  go_wp2_with fail
  refine (HS1.out).mono ?_
  rintro e w8 ⟨rfl, hb8⟩
  clear cx10 cx11 fx10 fx11 lx1 cx20 cx21 fx20 fx21 lx2 cx40 cx41 fx40 fx41 lx4 cx100 cx101 fx100 fx101 lx10 cx120 cx121 fx120 fx121 lx12
  have hW8 := chain (chain (chain hW7 (alloc_below _ _)) (alloc_below _ _)) hb8
  replace x1 := ((x1.alloc _).alloc _).later hb8
  replace x2 := ((x2.alloc _).alloc _).later hb8
  replace x4 := ((x4.alloc _).alloc _).later hb8
  replace x10 := ((x10.alloc _).alloc _).later hb8
  replace x12 := ((x12.alloc _).alloc _).later hb8
  have x14 := ((Bx.new _ [.slice a7 0 k7, .slice b7 0 m7] 25 (w7.heap.size) (by simp)).alloc _).later hb8
  obtain ⟨cx10, cx11, fx10, fx11⟩ := x1.c2
  have lx1 := x1.lt
  obtain ⟨cx20, cx21, fx20, fx21⟩ := x2.c2
  have lx2 := x2.lt
  obtain ⟨cx40, cx41, fx40, fx41⟩ := x4.c2
  have lx4 := x4.lt
  obtain ⟨cx100, cx101, fx100, fx101⟩ := x10.c2
  have lx10 := x10.lt
  obtain ⟨cx120, cx121, fx120, fx121⟩ := x12.c2
  have lx12 := x12.lt
  obtain ⟨cx140, cx141, fx140, fx141⟩ := x14.c2
  have lx14 := x14.lt
  have hu6 := hu6.later (chain (alloc_below _ (.cells #[.slice a7 0 k7, .slice b7 0 m7] 25)) (chain (alloc_below _ (.cells (strs [⟨#[97]⟩]).toArray 9)) hb8))
  have HS2 := Lib.hid (samedisk_any [⟨#[97]⟩, S0, S0, S0, S0, S1] [⟨#[97]⟩, S0, S0, S0, S0, S1] [] [] _ _ (w8.alloc (.cells (strs [⟨#[97]⟩, S0, S0, S0, S0, S1]).toArray 9)) (hu6.later (alloc_below _ _)).is
    ⟨_, _, rfl, Seen.of_own (own_built' (B := 0) (strs [⟨#[97]⟩, S0, S0, S0, S0, S1]) 6 1 w8.heap.size rfl (Nat.zero_le _) (by decide) rfl), Seen.nil _ _⟩)
  rw [sameD_self] at HS2
  go_wp2_with fail
  refine (HS2.out).mono ?_
  rintro e w9 ⟨rfl, hb9⟩
  clear cx10 cx11 fx10 fx11 lx1 cx20 cx21 fx20 fx21 lx2 cx40 cx41 fx40 fx41 lx4 cx100 cx101 fx100 fx101 lx10 cx120 cx121 fx120 fx121 lx12 cx140 cx141 fx140 fx141 lx14
  have hW9 := chain (chain hW8 (alloc_below _ _)) hb9
  replace x1 := (x1.alloc _).later hb9
  replace x2 := (x2.alloc _).later hb9
  replace x4 := (x4.alloc _).later hb9
  replace x10 := (x10.alloc _).later hb9
  replace x12 := (x12.alloc _).later hb9
  replace x14 := (x14.alloc _).later hb9
  obtain ⟨cx10, cx11, fx10, fx11⟩ := x1.c2
  have lx1 := x1.lt
  obtain ⟨cx20, cx21, fx20, fx21⟩ := x2.c2
  have lx2 := x2.lt
  obtain ⟨cx40, cx41, fx40, fx41⟩ := x4.c2
  have lx4 := x4.lt
  obtain ⟨cx100, cx101, fx100, fx101⟩ := x10.c2
  have lx10 := x10.lt
  obtain ⟨cx120, cx121, fx120, fx121⟩ := x12.c2
  have lx12 := x12.lt
  obtain ⟨cx140, cx141, fx140, fx141⟩ := x14.c2
  have lx14 := x14.lt
  go_wp2_with fail
  go_ret
  exact ⟨rfl, hW9⟩

end Go.Proofs.Ytjfamijedcpjcaa.DiskP
