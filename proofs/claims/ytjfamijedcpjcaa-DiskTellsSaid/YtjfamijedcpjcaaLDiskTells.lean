/- DiskTells: all calls on a disk answer what the document says. Conditions: none beyond the statement's own. -/
import Derived.Test.YtjfamijedcpjcaaDiskOpen
import Derived.Test.YtjfamijedcpjcaaDiskBegun
namespace Go.Proofs.Ytjfamijedcpjcaa.diskTells
open Go.ChangeShapes Go.WideShapes Go.ChangeAt Go.RowKit
open Go.ChangeMaps (open_string shut_string)
set_option linter.unusedVariables false

open K DiskP
attribute [local go_sem ↓] Go.wp_at_zero Go.wp_at_succ

set_option maxRecDepth 100000 in
set_option maxHeartbeats 4000000 in
theorem walk (x : List ByteArray × List Wr) (_ok : DiskOk x) (d : Value) (n : Int) (_n0 : -9223372036854775808 ≤ n) (_n1 : n ≤ 9223372036854775807) (s : ByteArray) (_s0 : s.size ≤ 140737488351232) (m : Int) (m0 : 0 ≤ m) (m1 : m ≤ 18446744073709551615) (w : World) (hd : IsDisk w d x.1 x.2) :
    Calls Try.prog 3 #[d, .int .i64 n, .string s, .int .u64 m] w fun e w' => e = .returned (.bool true) ∧ Below w.heap.size w w' := by
  obtain ⟨p, q⟩ := x
  simp only at hd
  obtain ⟨vp, vq, rfl, hsp, hsq⟩ := id hd
  obtain ⟨_, a, cap, rfl, _, _, _, _⟩ := id hsp
  obtain ⟨_, a', cap', rfl, _, _, _, _⟩ := id hsq
  clear hsp hsq
  have HD := Lib.hid hd
  clear hd
  have HSY := Lib.hid (settleP_crash p q (fun _ => true) 18446744073709551615 (fun i hi => (bitAt_all i (by omega)).symm))
  have HCR := Lib.hid (settleP_crash p q (bitAt m) m (fun i _ => rfl))
  go_enter Try.func3, Try.ntmps3
  go_wp2_with fail
  refine (read_any p q _ n _ (HD.out.later (alloc_below _ _) (Nat.le_refl _))).mono ?_
  rintro e w1 ⟨rfl, hb1⟩
  have hW1 := chain (alloc_below _ _) hb1
  have x4 := (Bx.new _ [.slice a p.length cap, .slice a' q.length cap'] 25 (w.heap.size) (by simp)).later hb1
  obtain ⟨cx40, cx41, fx40, fx41⟩ := x4.c2
  have lx4 := x4.lt
  go_wp2_with fail
  refine (write_any p q _ n s _ (HD.out.later hW1 (Nat.le_refl _))).mono ?_
  rintro e w2 ⟨u2, rfl, hu2, hb2⟩
  clear cx40 cx41 fx40 fx41 lx4
  have hW2 := chain hW1 hb2
  replace x4 := x4.later hb2
  obtain ⟨cx40, cx41, fx40, fx41⟩ := x4.c2
  have lx4 := x4.lt
  obtain ⟨a2, k2, b2, m2, rfl⟩ := hu2.slices
  have e2 := hu2.is
  go_wp2_with fail
  refine (sync_any p q _ _ (HD.out.later (chain hW2 (alloc_below _ _)) (Nat.le_refl _))).mono ?_
  rintro e w3 ⟨u3, rfl, hu3, hb3⟩
  clear cx40 cx41 fx40 fx41 lx4
  have hW3 := chain (chain hW2 (alloc_below _ _)) hb3
  replace e2 := e2.later (chain (alloc_below _ _) hb3) (Nat.le_refl _)
  replace x4 := (x4.alloc _).later hb3
  have x11 := (Bx.new _ [.slice a2 (writeP p q n s).length k2, .slice b2 (writeQ p q n s).length m2] 25 (w2.heap.size) (by simp)).later hb3
  obtain ⟨cx40, cx41, fx40, fx41⟩ := x4.c2
  have lx4 := x4.lt
  obtain ⟨cx110, cx111, fx110, fx111⟩ := x11.c2
  have lx11 := x11.lt
  rw [HSY.out] at hu3
  obtain ⟨a3, k3, b3, m3, rfl⟩ := hu3.slices
  have e3 := hu3.is
  simp only [List.length_nil] at e3
  go_wp2_with fail
  refine (crash_any p q _ m m0 m1 _ (HD.out.later (chain hW3 (alloc_below _ _)) (Nat.le_refl _))).mono ?_
  rintro e w4 ⟨u4, rfl, hu4, hb4⟩
  clear cx40 cx41 fx40 fx41 lx4 cx110 cx111 fx110 fx111 lx11
  have hW4 := chain (chain hW3 (alloc_below _ _)) hb4
  replace e2 := e2.later (chain (alloc_below _ _) hb4) (Nat.le_refl _)
  replace e3 := e3.later (chain (alloc_below _ _) hb4) (Nat.le_refl _)
  replace x4 := (x4.alloc _).later hb4
  replace x11 := (x11.alloc _).later hb4
  have x13 := (Bx.new _ [.slice a3 (crashP p q 18446744073709551615).length k3, .slice b3 0 m3] 25 (w3.heap.size) (by simp)).later hb4
  obtain ⟨cx40, cx41, fx40, fx41⟩ := x4.c2
  have lx4 := x4.lt
  obtain ⟨cx110, cx111, fx110, fx111⟩ := x11.c2
  have lx11 := x11.lt
  obtain ⟨cx130, cx131, fx130, fx131⟩ := x13.c2
  have lx13 := x13.lt
  rw [HCR.out] at hu4
  obtain ⟨a4, k4, b4, m4, rfl⟩ := hu4.slices
  have e4 := hu4.is
  simp only [List.length_nil] at e4
  go_wp2_with fail
  refine (readof_any p q _ n _ (HD.out.later (chain hW4 (alloc_below _ _)) (Nat.le_refl _))).mono ?_
  rintro e w5 ⟨rfl, hb5⟩
  clear cx40 cx41 fx40 fx41 lx4 cx110 cx111 fx110 fx111 lx11 cx130 cx131 fx130 fx131 lx13
  have hW5 := chain (chain hW4 (alloc_below _ _)) hb5
  replace e2 := e2.later (chain (alloc_below _ _) hb5) (Nat.le_refl _)
  replace e3 := e3.later (chain (alloc_below _ _) hb5) (Nat.le_refl _)
  replace e4 := e4.later (chain (alloc_below _ _) hb5) (Nat.le_refl _)
  replace x4 := (x4.alloc _).later hb5
  replace x11 := (x11.alloc _).later hb5
  replace x13 := (x13.alloc _).later hb5
  have x15 := (Bx.new _ [.slice a4 (crashP p q m).length k4, .slice b4 0 m4] 25 (w4.heap.size) (by simp)).later hb5
  obtain ⟨cx40, cx41, fx40, fx41⟩ := x4.c2
  have lx4 := x4.lt
  obtain ⟨cx110, cx111, fx110, fx111⟩ := x11.c2
  have lx11 := x11.lt
  obtain ⟨cx130, cx131, fx130, fx131⟩ := x13.c2
  have lx13 := x13.lt
  obtain ⟨cx150, cx151, fx150, fx151⟩ := x15.c2
  have lx15 := x15.lt
  go_wp2_with fail
  refine (writeof_any p q _ n s _ (HD.out.later hW5 (Nat.le_refl _))).mono ?_
  rintro e w6 ⟨u6, rfl, hu6, hb6⟩
  clear cx40 cx41 fx40 fx41 lx4 cx110 cx111 fx110 fx111 lx11 cx130 cx131 fx130 fx131 lx13 cx150 cx151 fx150 fx151 lx15
  have hW6 := chain hW5 hb6
  replace e2 := e2.later hb6 (Nat.le_refl _)
  replace e3 := e3.later hb6 (Nat.le_refl _)
  replace e4 := e4.later hb6 (Nat.le_refl _)
  replace x4 := x4.later hb6
  replace x11 := x11.later hb6
  replace x13 := x13.later hb6
  replace x15 := x15.later hb6
  obtain ⟨cx40, cx41, fx40, fx41⟩ := x4.c2
  have lx4 := x4.lt
  obtain ⟨cx110, cx111, fx110, fx111⟩ := x11.c2
  have lx11 := x11.lt
  obtain ⟨cx130, cx131, fx130, fx131⟩ := x13.c2
  have lx13 := x13.lt
  obtain ⟨cx150, cx151, fx150, fx151⟩ := x15.c2
  have lx15 := x15.lt
  obtain ⟨vp6, vq6, rfl, hsp6, hsq6⟩ := id hu6
  obtain ⟨_, a6, k6, rfl, _, _, _, _⟩ := id hsp6
  obtain ⟨_, b6, m6, rfl, _, _, _, _⟩ := id hsq6
  clear hsp6 hsq6
  have e6 := hu6
  go_wp2_with fail
  refine (crashof_any p q _ 18446744073709551615 (by decide) (by decide) _ (HD.out.later (chain hW6 (alloc_below _ _)) (Nat.le_refl _))).mono ?_
  rintro e w7 ⟨u7, rfl, hu7, hb7⟩
  clear cx40 cx41 fx40 fx41 lx4 cx110 cx111 fx110 fx111 lx11 cx130 cx131 fx130 fx131 lx13 cx150 cx151 fx150 fx151 lx15
  have hW7 := chain (chain hW6 (alloc_below _ _)) hb7
  replace e2 := e2.later (chain (alloc_below _ _) hb7) (Nat.le_refl _)
  replace e3 := e3.later (chain (alloc_below _ _) hb7) (Nat.le_refl _)
  replace e4 := e4.later (chain (alloc_below _ _) hb7) (Nat.le_refl _)
  replace e6 := e6.later (chain (alloc_below _ _) hb7) (Nat.le_refl _)
  replace x4 := (x4.alloc _).later hb7
  replace x11 := (x11.alloc _).later hb7
  replace x13 := (x13.alloc _).later hb7
  replace x15 := (x15.alloc _).later hb7
  have x19 := (Bx.new _ [.slice a6 (writeP p q n s).length k6, .slice b6 (writeQ p q n s).length m6] 25 (w6.heap.size) (by simp)).later hb7
  obtain ⟨cx40, cx41, fx40, fx41⟩ := x4.c2
  have lx4 := x4.lt
  obtain ⟨cx110, cx111, fx110, fx111⟩ := x11.c2
  have lx11 := x11.lt
  obtain ⟨cx130, cx131, fx130, fx131⟩ := x13.c2
  have lx13 := x13.lt
  obtain ⟨cx150, cx151, fx150, fx151⟩ := x15.c2
  have lx15 := x15.lt
  obtain ⟨cx190, cx191, fx190, fx191⟩ := x19.c2
  have lx19 := x19.lt
  obtain ⟨a7, k7, b7, m7, rfl⟩ := hu7.slices
  have e7 := hu7.is
  simp only [List.length_nil] at e7
  go_wp2_with fail
  refine (crashof_any p q _ m m0 m1 _ (HD.out.later (chain hW7 (alloc_below _ _)) (Nat.le_refl _))).mono ?_
  rintro e w8 ⟨u8, rfl, hu8, hb8⟩
  clear cx40 cx41 fx40 fx41 lx4 cx110 cx111 fx110 fx111 lx11 cx130 cx131 fx130 fx131 lx13 cx150 cx151 fx150 fx151 lx15 cx190 cx191 fx190 fx191 lx19
  have hW8 := chain (chain hW7 (alloc_below _ _)) hb8
  replace e2 := e2.later (chain (alloc_below _ _) hb8) (Nat.le_refl _)
  replace e3 := e3.later (chain (alloc_below _ _) hb8) (Nat.le_refl _)
  replace e4 := e4.later (chain (alloc_below _ _) hb8) (Nat.le_refl _)
  replace e6 := e6.later (chain (alloc_below _ _) hb8) (Nat.le_refl _)
  replace e7 := e7.later (chain (alloc_below _ _) hb8) (Nat.le_refl _)
  replace x4 := (x4.alloc _).later hb8
  replace x11 := (x11.alloc _).later hb8
  replace x13 := (x13.alloc _).later hb8
  replace x15 := (x15.alloc _).later hb8
  replace x19 := (x19.alloc _).later hb8
  have x21 := (Bx.new _ [.slice a7 (crashP p q 18446744073709551615).length k7, .slice b7 0 m7] 25 (w7.heap.size) (by simp)).later hb8
  obtain ⟨cx40, cx41, fx40, fx41⟩ := x4.c2
  have lx4 := x4.lt
  obtain ⟨cx110, cx111, fx110, fx111⟩ := x11.c2
  have lx11 := x11.lt
  obtain ⟨cx130, cx131, fx130, fx131⟩ := x13.c2
  have lx13 := x13.lt
  obtain ⟨cx150, cx151, fx150, fx151⟩ := x15.c2
  have lx15 := x15.lt
  obtain ⟨cx190, cx191, fx190, fx191⟩ := x19.c2
  have lx19 := x19.lt
  obtain ⟨cx210, cx211, fx210, fx211⟩ := x21.c2
  have lx21 := x21.lt
  obtain ⟨a8, k8, b8, m8, rfl⟩ := hu8.slices
  have e8 := hu8.is
  simp only [List.length_nil] at e8
  go_wp2_with fail
  clear cx40 cx41 fx40 fx41 lx4 cx110 cx111 fx110 fx111 lx11 cx130 cx131 fx130 fx131 lx13 cx150 cx151 fx150 fx151 lx15 cx190 cx191 fx190 fx191 lx19 cx210 cx211 fx210 fx211 lx21
  replace e2 := e2.later (alloc_below w8 (.cells #[.slice a8 (crashP p q m).length k8, .slice b8 0 m8] 25)) (Nat.le_refl _)
  replace e3 := e3.later (alloc_below w8 (.cells #[.slice a8 (crashP p q m).length k8, .slice b8 0 m8] 25)) (Nat.le_refl _)
  replace e4 := e4.later (alloc_below w8 (.cells #[.slice a8 (crashP p q m).length k8, .slice b8 0 m8] 25)) (Nat.le_refl _)
  replace e6 := e6.later (alloc_below w8 (.cells #[.slice a8 (crashP p q m).length k8, .slice b8 0 m8] 25)) (Nat.le_refl _)
  replace e7 := e7.later (alloc_below w8 (.cells #[.slice a8 (crashP p q m).length k8, .slice b8 0 m8] 25)) (Nat.le_refl _)
  replace e8 := e8.later (alloc_below w8 (.cells #[.slice a8 (crashP p q m).length k8, .slice b8 0 m8] 25)) (Nat.le_refl _)
  replace x4 := x4.later (alloc_below w8 (.cells #[.slice a8 (crashP p q m).length k8, .slice b8 0 m8] 25))
  replace x11 := x11.later (alloc_below w8 (.cells #[.slice a8 (crashP p q m).length k8, .slice b8 0 m8] 25))
  replace x13 := x13.later (alloc_below w8 (.cells #[.slice a8 (crashP p q m).length k8, .slice b8 0 m8] 25))
  replace x15 := x15.later (alloc_below w8 (.cells #[.slice a8 (crashP p q m).length k8, .slice b8 0 m8] 25))
  replace x19 := x19.later (alloc_below w8 (.cells #[.slice a8 (crashP p q m).length k8, .slice b8 0 m8] 25))
  replace x21 := x21.later (alloc_below w8 (.cells #[.slice a8 (crashP p q m).length k8, .slice b8 0 m8] 25))
  have x23 := (Bx.new w8 [.slice a8 (crashP p q m).length k8, .slice b8 0 m8] 25 (w8.heap.size) (by simp))
  have hW_W9 : Below w.heap.size w (w8.alloc (.cells #[.slice a8 (crashP p q m).length k8, .slice b8 0 m8] 25)) := (chain hW8 (alloc_below _ _))
  generalize (w8.alloc (.cells #[.slice a8 (crashP p q m).length k8, .slice b8 0 m8] 25)) = W9 at *
  obtain ⟨cx40, cx41, fx40, fx41⟩ := x4.c2
  have lx4 := x4.lt
  obtain ⟨cx110, cx111, fx110, fx111⟩ := x11.c2
  have lx11 := x11.lt
  obtain ⟨cx130, cx131, fx130, fx131⟩ := x13.c2
  have lx13 := x13.lt
  obtain ⟨cx150, cx151, fx150, fx151⟩ := x15.c2
  have lx15 := x15.lt
  obtain ⟨cx190, cx191, fx190, fx191⟩ := x19.c2
  have lx19 := x19.lt
  obtain ⟨cx210, cx211, fx210, fx211⟩ := x21.c2
  have lx21 := x21.lt
  obtain ⟨cx230, cx231, fx230, fx231⟩ := x23.c2
  have lx23 := x23.lt
  have HE2 := Lib.hid (And.intro e2 e6)
  have HE3 := Lib.hid (And.intro e3 e7)
  have HE4 := Lib.hid (And.intro e4 e8)
  clear e2 e3 e4 e6 e7 e8 hu2 hu3 hu4 hu6 hu7 hu8
  have HD9 := Lib.hid (HD.out.later hW_W9 (Nat.le_refl _))
  go_region_held3 (fun W' => W'.cell? ⟨w.heap.size, 0, none⟩ = some (Value.slice a p.length cap) ∧ W'.cell? ⟨w.heap.size, 1, none⟩ = some (Value.slice a' q.length cap') ∧ W'.cell? ⟨w2.heap.size, 0, none⟩ = some (Value.slice a2 (writeP p q n s).length k2) ∧ W'.cell? ⟨w2.heap.size, 1, none⟩ = some (Value.slice b2 (writeQ p q n s).length m2) ∧ W'.cell? ⟨w3.heap.size, 0, none⟩ = some (Value.slice a3 (crashP p q 18446744073709551615).length k3) ∧ W'.cell? ⟨w3.heap.size, 1, none⟩ = some (Value.slice b3 0 m3) ∧ W'.cell? ⟨w4.heap.size, 0, none⟩ = some (Value.slice a4 (crashP p q m).length k4) ∧ W'.cell? ⟨w4.heap.size, 1, none⟩ = some (Value.slice b4 0 m4) ∧ W'.cell? ⟨w6.heap.size, 0, none⟩ = some (Value.slice a6 (writeP p q n s).length k6) ∧ W'.cell? ⟨w6.heap.size, 1, none⟩ = some (Value.slice b6 (writeQ p q n s).length m6) ∧ W'.cell? ⟨w7.heap.size, 0, none⟩ = some (Value.slice a7 (crashP p q 18446744073709551615).length k7) ∧ W'.cell? ⟨w7.heap.size, 1, none⟩ = some (Value.slice b7 0 m7) ∧ W'.cell? ⟨w8.heap.size, 0, none⟩ = some (Value.slice a8 (crashP p q m).length k8) ∧ W'.cell? ⟨w8.heap.size, 1, none⟩ = some (Value.slice b8 0 m8))
    (first | exact ⟨cx40, cx41, cx110, cx111, cx130, cx131, cx150, cx151, cx190, cx191, cx210, cx211, cx230, cx231⟩ | go_keep)
    (first
      | (go_at_call 15; (with_reducible refine (begun_any _).mono ?_); rintro e v0 ⟨rfl, hv0⟩
         clear cx40 cx41 fx40 fx41 lx4 cx110 cx111 fx110 fx111 lx11 cx130 cx131 fx130 fx131 lx13 cx150 cx151 fx150 fx151 lx15 cx190 cx191 fx190 fx191 lx19 cx210 cx211 fx210 fx211 lx21 cx230 cx231 fx230 fx231 lx23
         replace x4 := bx_later hv0 x4
         obtain ⟨cx40, cx41, fx40, fx41⟩ := x4.c2
         have lx4 := x4.lt
         replace x11 := bx_later hv0 x11
         obtain ⟨cx110, cx111, fx110, fx111⟩ := x11.c2
         have lx11 := x11.lt
         replace x13 := bx_later hv0 x13
         obtain ⟨cx130, cx131, fx130, fx131⟩ := x13.c2
         have lx13 := x13.lt
         replace x15 := bx_later hv0 x15
         obtain ⟨cx150, cx151, fx150, fx151⟩ := x15.c2
         have lx15 := x15.lt
         replace x19 := bx_later hv0 x19
         obtain ⟨cx190, cx191, fx190, fx191⟩ := x19.c2
         have lx19 := x19.lt
         replace x21 := bx_later hv0 x21
         obtain ⟨cx210, cx211, fx210, fx211⟩ := x21.c2
         have lx21 := x21.lt
         replace x23 := bx_later hv0 x23
         obtain ⟨cx230, cx231, fx230, fx231⟩ := x23.c2
         have lx23 := x23.lt)
      | (go_at_call 16; (with_reducible refine (check_any p q _ _ (HD9.out.later (by repeat (first | exact Below.refl _ _ | refine Below.drew ?_ | refine Below.alloc ?_ (by first | omega | (simp; done) | (simp; omega)) _ | refine chain ?_ (by assumption))) (Nat.le_refl _))).mono ?_); rintro e v1 ⟨rfl, hv1⟩
         clear cx40 cx41 fx40 fx41 lx4 cx110 cx111 fx110 fx111 lx11 cx130 cx131 fx130 fx131 lx13 cx150 cx151 fx150 fx151 lx15 cx190 cx191 fx190 fx191 lx19 cx210 cx211 fx210 fx211 lx21 cx230 cx231 fx230 fx231 lx23
         replace x4 := bx_later hv1 x4
         obtain ⟨cx40, cx41, fx40, fx41⟩ := x4.c2
         have lx4 := x4.lt
         replace x11 := bx_later hv1 x11
         obtain ⟨cx110, cx111, fx110, fx111⟩ := x11.c2
         have lx11 := x11.lt
         replace x13 := bx_later hv1 x13
         obtain ⟨cx130, cx131, fx130, fx131⟩ := x13.c2
         have lx13 := x13.lt
         replace x15 := bx_later hv1 x15
         obtain ⟨cx150, cx151, fx150, fx151⟩ := x15.c2
         have lx15 := x15.lt
         replace x19 := bx_later hv1 x19
         obtain ⟨cx190, cx191, fx190, fx191⟩ := x19.c2
         have lx19 := x19.lt
         replace x21 := bx_later hv1 x21
         obtain ⟨cx210, cx211, fx210, fx211⟩ := x21.c2
         have lx21 := x21.lt
         replace x23 := bx_later hv1 x23
         obtain ⟨cx230, cx231, fx230, fx231⟩ := x23.c2
         have lx23 := x23.lt)
      | (go_at_call 17; (with_reducible refine (diskcheck_any p q _ _ (HD9.out.later (by repeat (first | exact Below.refl _ _ | refine Below.drew ?_ | refine Below.alloc ?_ (by first | omega | (simp; done) | (simp; omega)) _ | refine chain ?_ (by assumption))) (Nat.le_refl _))).mono ?_); rintro e v2 ⟨rfl, hv2⟩
         clear cx40 cx41 fx40 fx41 lx4 cx110 cx111 fx110 fx111 lx11 cx130 cx131 fx130 fx131 lx13 cx150 cx151 fx150 fx151 lx15 cx190 cx191 fx190 fx191 lx19 cx210 cx211 fx210 fx211 lx21 cx230 cx231 fx230 fx231 lx23
         replace x4 := bx_later hv2 x4
         obtain ⟨cx40, cx41, fx40, fx41⟩ := x4.c2
         have lx4 := x4.lt
         replace x11 := bx_later hv2 x11
         obtain ⟨cx110, cx111, fx110, fx111⟩ := x11.c2
         have lx11 := x11.lt
         replace x13 := bx_later hv2 x13
         obtain ⟨cx130, cx131, fx130, fx131⟩ := x13.c2
         have lx13 := x13.lt
         replace x15 := bx_later hv2 x15
         obtain ⟨cx150, cx151, fx150, fx151⟩ := x15.c2
         have lx15 := x15.lt
         replace x19 := bx_later hv2 x19
         obtain ⟨cx190, cx191, fx190, fx191⟩ := x19.c2
         have lx19 := x19.lt
         replace x21 := bx_later hv2 x21
         obtain ⟨cx210, cx211, fx210, fx211⟩ := x21.c2
         have lx21 := x21.lt
         replace x23 := bx_later hv2 x23
         obtain ⟨cx230, cx231, fx230, fx231⟩ := x23.c2
         have lx23 := x23.lt)
      | (go_at_call 18; (with_reducible refine (samedisk_any _ _ _ _ _ _ _ (HE2.out.1.later (by repeat (first | exact Below.refl _ _ | refine Below.drew ?_ | refine Below.alloc ?_ (by first | omega | (simp; done) | (simp; omega)) _ | refine chain ?_ (by assumption))) (Nat.le_refl _)) (HE2.out.2.later (by repeat (first | exact Below.refl _ _ | refine Below.drew ?_ | refine Below.alloc ?_ (by first | omega | (simp; done) | (simp; omega)) _ | refine chain ?_ (by assumption))) (Nat.le_refl _))).mono ?_); rintro e v3 ⟨rfl, hv3⟩; rw [sameD_self]
         clear cx40 cx41 fx40 fx41 lx4 cx110 cx111 fx110 fx111 lx11 cx130 cx131 fx130 fx131 lx13 cx150 cx151 fx150 fx151 lx15 cx190 cx191 fx190 fx191 lx19 cx210 cx211 fx210 fx211 lx21 cx230 cx231 fx230 fx231 lx23
         replace x4 := bx_later hv3 x4
         obtain ⟨cx40, cx41, fx40, fx41⟩ := x4.c2
         have lx4 := x4.lt
         replace x11 := bx_later hv3 x11
         obtain ⟨cx110, cx111, fx110, fx111⟩ := x11.c2
         have lx11 := x11.lt
         replace x13 := bx_later hv3 x13
         obtain ⟨cx130, cx131, fx130, fx131⟩ := x13.c2
         have lx13 := x13.lt
         replace x15 := bx_later hv3 x15
         obtain ⟨cx150, cx151, fx150, fx151⟩ := x15.c2
         have lx15 := x15.lt
         replace x19 := bx_later hv3 x19
         obtain ⟨cx190, cx191, fx190, fx191⟩ := x19.c2
         have lx19 := x19.lt
         replace x21 := bx_later hv3 x21
         obtain ⟨cx210, cx211, fx210, fx211⟩ := x21.c2
         have lx21 := x21.lt
         replace x23 := bx_later hv3 x23
         obtain ⟨cx230, cx231, fx230, fx231⟩ := x23.c2
         have lx23 := x23.lt)
      | (go_at_call 18; (with_reducible refine (samedisk_any _ _ _ _ _ _ _ (HE3.out.1.later (by repeat (first | exact Below.refl _ _ | refine Below.drew ?_ | refine Below.alloc ?_ (by first | omega | (simp; done) | (simp; omega)) _ | refine chain ?_ (by assumption))) (Nat.le_refl _)) (HE3.out.2.later (by repeat (first | exact Below.refl _ _ | refine Below.drew ?_ | refine Below.alloc ?_ (by first | omega | (simp; done) | (simp; omega)) _ | refine chain ?_ (by assumption))) (Nat.le_refl _))).mono ?_); rintro e v4 ⟨rfl, hv4⟩; rw [sameD_self]
         clear cx40 cx41 fx40 fx41 lx4 cx110 cx111 fx110 fx111 lx11 cx130 cx131 fx130 fx131 lx13 cx150 cx151 fx150 fx151 lx15 cx190 cx191 fx190 fx191 lx19 cx210 cx211 fx210 fx211 lx21 cx230 cx231 fx230 fx231 lx23
         replace x4 := bx_later hv4 x4
         obtain ⟨cx40, cx41, fx40, fx41⟩ := x4.c2
         have lx4 := x4.lt
         replace x11 := bx_later hv4 x11
         obtain ⟨cx110, cx111, fx110, fx111⟩ := x11.c2
         have lx11 := x11.lt
         replace x13 := bx_later hv4 x13
         obtain ⟨cx130, cx131, fx130, fx131⟩ := x13.c2
         have lx13 := x13.lt
         replace x15 := bx_later hv4 x15
         obtain ⟨cx150, cx151, fx150, fx151⟩ := x15.c2
         have lx15 := x15.lt
         replace x19 := bx_later hv4 x19
         obtain ⟨cx190, cx191, fx190, fx191⟩ := x19.c2
         have lx19 := x19.lt
         replace x21 := bx_later hv4 x21
         obtain ⟨cx210, cx211, fx210, fx211⟩ := x21.c2
         have lx21 := x21.lt
         replace x23 := bx_later hv4 x23
         obtain ⟨cx230, cx231, fx230, fx231⟩ := x23.c2
         have lx23 := x23.lt)
      | (go_at_call 18; (with_reducible refine (samedisk_any _ _ _ _ _ _ _ (HE4.out.1.later (by repeat (first | exact Below.refl _ _ | refine Below.drew ?_ | refine Below.alloc ?_ (by first | omega | (simp; done) | (simp; omega)) _ | refine chain ?_ (by assumption))) (Nat.le_refl _)) (HE4.out.2.later (by repeat (first | exact Below.refl _ _ | refine Below.drew ?_ | refine Below.alloc ?_ (by first | omega | (simp; done) | (simp; omega)) _ | refine chain ?_ (by assumption))) (Nat.le_refl _))).mono ?_); rintro e v5 ⟨rfl, hv5⟩; rw [sameD_self]
         clear cx40 cx41 fx40 fx41 lx4 cx110 cx111 fx110 fx111 lx11 cx130 cx131 fx130 fx131 lx13 cx150 cx151 fx150 fx151 lx15 cx190 cx191 fx190 fx191 lx19 cx210 cx211 fx210 fx211 lx21 cx230 cx231 fx230 fx231 lx23
         replace x4 := bx_later hv5 x4
         obtain ⟨cx40, cx41, fx40, fx41⟩ := x4.c2
         have lx4 := x4.lt
         replace x11 := bx_later hv5 x11
         obtain ⟨cx110, cx111, fx110, fx111⟩ := x11.c2
         have lx11 := x11.lt
         replace x13 := bx_later hv5 x13
         obtain ⟨cx130, cx131, fx130, fx131⟩ := x13.c2
         have lx13 := x13.lt
         replace x15 := bx_later hv5 x15
         obtain ⟨cx150, cx151, fx150, fx151⟩ := x15.c2
         have lx15 := x15.lt
         replace x19 := bx_later hv5 x19
         obtain ⟨cx190, cx191, fx190, fx191⟩ := x19.c2
         have lx19 := x19.lt
         replace x21 := bx_later hv5 x21
         obtain ⟨cx210, cx211, fx210, fx211⟩ := x21.c2
         have lx21 := x21.lt
         replace x23 := bx_later hv5 x23
         obtain ⟨cx230, cx231, fx230, fx231⟩ := x23.c2
         have lx23 := x23.lt))
  all_goals
    go_wp2
    go_ret
    refine ⟨by first | rfl | simp, ?_⟩
    repeat (first | exact hW_W9 | refine Below.drew ?_ | refine chain ?_ (by assumption))

/-! ### the row's step, by program -/
set_option maxRecDepth 100000 in
theorem lifted (os : Os) (started : os.Started) (H : Type) (enc : TypeId × Value → H) :
    ReturnsInHanded {} Try.checked os 3 .any (Rows.diskTellsSpec.pre6 enc Try.prog Try.f3 Rows.diskTellsRow.domain false) (Rows.diskTellsSpec.post enc Try.prog Try.f3 false true false false) := by
  refine returnsInHanded_of_change_sized (C := Try.checked) own started (by kernel_rfl) Try.func3
    (ChangeSpec.witness6 (enc := enc) (C := Try.checked) false ⟨#[], #[.agg #[.slice none 0 0, .slice none 0 0], .int .i64 0, .string ByteArray.empty, .int .u64 0], []⟩ 8 (by kernel_rfl) (by kernel_rfl) (by kernel_rfl) (by kernel_rfl)) ?_
  intro W base args ds gs before hval0 hW hcnd hsz0 _
  have hval : ∀ (j : Nat) t v, Try.f3.params[j]? = some t → args[j]? = some v → Value.okWide Try.prog W .any base t v := hval0
  have hsz : (DataW.weightsEach Try.prog (Try.f3.params.toList ++ Rows.diskTellsSpec.plain.varTypes Try.prog) (ds ++ gs)).all (· ≤ reachBytes) = true := hsz0
  have hW' := hW
  obtain ⟨p, q, hA0, hV, rfl, hfz, hnd⟩ := hW
  have hA : DataW.TrodAll enc Try.prog W 0 (fun _ => true) true Try.f3.params.toList args.toList ds p := hA0
  rw [Try.params3] at hA hval hsz
  obtain ⟨v0, vs0, d0, ds0, p0, q0, hargs, rfl, rfl, h0, r0⟩ := trodAll_cons hA
  obtain ⟨v1, vs1, d1, ds1, p1, q1, rfl, rfl, rfl, h1, r1⟩ := trodAll_cons r0
  obtain ⟨v2, vs2, d2, ds2, p2, q2, rfl, rfl, rfl, h2, r2⟩ := trodAll_cons r1
  obtain ⟨v3, vs3, d3, ds3, p3, q3, rfl, rfl, rfl, h3, r3⟩ := trodAll_cons r2
  obtain ⟨rfl, rfl, rfl⟩ := trodAll_nil r3
  obtain rfl : args = #[v0, v1, v2, v3] := by cases args; simp_all
  obtain ⟨rfl, rfl⟩ := trodVars_none hV
  obtain ⟨x0, R0, k0⟩ := open_param DiskP.opens_disk h0 hsz (j := 0) (t := 25) rfl rfl
  have D0 := DiskP.DiskR.is (agg_cells Try.underlying25 (hval 0 25 v0 rfl rfl) rfl) R0
  obtain ⟨a1, rfl, rfl, rfl, wf1⟩ := open_int Try.underlying3 (hval 1 3 v1 rfl rfl) h1
  have w1 : -9223372036854775808 ≤ a1 ∧ a1 ≤ 9223372036854775807 := by simpa [Lit.wf, IntKind.min, IntKind.max, IntKind.signed, IntKind.bits] using wf1
  obtain ⟨a2, rfl, rfl, rfl, wm2⟩ := open_string Try.underlying9 (hval 2 9 v2 rfl rfl) h2
  have w2 : a2.size ≤ 140737488351232 := by
    have := sized_string hsz (j := 2) (t := 9) rfl rfl
    simpa [reachBytes] using this
  obtain ⟨a3, rfl, rfl, rfl, wf3⟩ := open_int Try.underlying26 (hval 3 26 v3 rfl rfl) h3
  have w3 : 0 ≤ a3 ∧ a3 ≤ 18446744073709551615 := by simpa [Lit.wf, IntKind.min, IntKind.max, IntKind.signed, IntKind.bits] using wf3
  clear hA0 hval0
  refine (walk x0 k0 v0 a1 w1.1 w1.2 a2 w2 a3 w3.1 w3.2 W D0).mono fun e W' ⟨he, bel⟩ => ?_
  subst he
  exact ⟨_, rfl, post_true laidOut (by kernel_rfl) Try.underlying4 (by kernel_rfl) rfl hW' rfl bel⟩

theorem proved : Rows.DiskTellsSaid :=
  OpenClaim.holds_of_wide 3 Try.f3 rfl rfl rfl rfl rfl rfl rfl ⟨rfl, rfl, rfl, rfl, rfl⟩ rfl rfl rfl rfl rfl (by kernel_rfl) Try.func3 (by kernel_rfl)
    (of_decide_eq_true (by kernel_rfl)) (by unfold Func.isWrapper; first | (rw [if_pos (by decide +kernel)]; kernel_rfl) | (rw [if_neg (by decide +kernel)]; exact ⟨rfl, rfl⟩))
    (fun os started H enc _ => lifted os started H enc)

end Go.Proofs.Ytjfamijedcpjcaa.diskTells

