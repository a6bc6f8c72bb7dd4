/- DiskGood: what was synced is there for good. Conditions: none beyond the statement's own. -/
import Derived.Test.YtjfamijedcpjcaaDiskOpen
import Derived.Test.YtjfamijedcpjcaaDiskBegun
import Derived.Test.YtjfamijedcpjcaaDiskFacts
namespace Go.Proofs.Ytjfamijedcpjcaa.diskGood
open Go.ChangeShapes Go.WideShapes Go.ChangeAt Go.RowKit
open Go.ChangeMaps (open_string shut_string)
set_option linter.unusedVariables false

open K DiskP
attribute [local go_sem ↓] Go.wp_at_zero Go.wp_at_succ

set_option maxRecDepth 100000 in
set_option maxHeartbeats 4000000 in
theorem walk (x : List ByteArray × List Wr) (_ok : DiskOk x) (d : Value) (m : Int) (m0 : 0 ≤ m) (m1 : m ≤ 18446744073709551615) (w : World) (hd : IsDisk w d x.1 x.2) :
    Calls Try.prog 5 #[d, .int .u64 m] w fun e w' => e = .returned (.bool true) ∧ Below w.heap.size w w' := by
  obtain ⟨p, q⟩ := x
  simp only at hd
  obtain ⟨vp, vq, rfl, hsp, hsq⟩ := id hd
  obtain ⟨_, a, cap, rfl, _, _, _, _⟩ := id hsp
  obtain ⟨_, a', cap', rfl, _, _, _, _⟩ := id hsq
  clear hsp hsq
  have HD := Lib.hid hd
  clear hd
  by_cases hE : check p q = 0
  · have HE := Lib.hid hE
    have HX := Lib.hid (settleP_pages (m := 18446744073709551615) hE)
    have HS := Lib.hid (settleP_crash p q (fun _ => true) 18446744073709551615 (fun i hi => (bitAt_all i (by omega)).symm))
    have HA := Lib.hid (settleP_crash p q (bitAt 18446744073709551615) 18446744073709551615 (fun i _ => rfl))
    have HY := Lib.hid (settle_none (p := crashP p q 18446744073709551615) [] (bitAt m) (settleP_pages hE) (by simp))
    have HZ := Lib.hid (settle_none q (bitAt 0) hE (fun i _ => bitAt_zero i))
    clear hE
    generalize hC : crashP p q 18446744073709551615 = C at *
    go_enter Try.func5, Try.ntmps5
    have C1 := sync_any p q _ _ (HD.out.later (alloc_below w (.cells #[.slice a p.length cap, .slice a' q.length cap'] 25)) (Nat.le_refl _))
    rw [HS.out, HE.out] at C1
    have HC1 := Lib.hid C1
    have HCC := Lib.hid hC
    clear C1 hC
    go_wp2_with fail
    refine (HC1.out).mono ?_
    rintro e w1 ⟨u1, rfl, hu1, hb1⟩
    have hW1 := chain (alloc_below _ _) hb1
    have x2 := (Bx.new _ [.slice a p.length cap, .slice a' q.length cap'] 25 (w.heap.size) (by simp)).later hb1
    obtain ⟨cx20, cx21, fx20, fx21⟩ := x2.c2
    have lx2 := x2.lt
    obtain ⟨a1, k1, b1, n1, rfl⟩ := hu1.slices
    have e1 := hu1.is
    simp only [List.length_nil] at e1
    clear hu1
    go_wp2_with fail
    refine (begun_any _).mono ?_
    rintro e w2 ⟨rfl, hb2⟩
    clear cx20 cx21 fx20 fx21 lx2
    have hW2 := chain (chain hW1 (alloc_below _ _)) hb2
    replace e1 := e1.later (chain (alloc_below _ _) hb2) (Nat.le_refl _)
    replace x2 := (x2.alloc _).later hb2
    have x5 := (Bx.new _ [.slice a1 C.length k1, .slice b1 0 n1] 25 (w1.heap.size) (by simp)).later hb2
    obtain ⟨cx20, cx21, fx20, fx21⟩ := x2.c2
    have lx2 := x2.lt
    obtain ⟨cx50, cx51, fx50, fx51⟩ := x5.c2
    have lx5 := x5.lt
    have C3 := crash_any C [] _ m m0 m1 _ e1
    rw [HX.out, HY.out] at C3
    have HC3 := Lib.hid C3
    clear C3
    go_wp2_with fail
    refine (HC3.out).mono ?_
    rintro e w3 ⟨u3, rfl, hu3, hb3⟩
    clear cx20 cx21 fx20 fx21 lx2 cx50 cx51 fx50 fx51 lx5
    have hW3 := chain hW2 hb3
    replace e1 := e1.later hb3 (Nat.le_refl _)
    replace x2 := x2.later hb3
    replace x5 := x5.later hb3
    obtain ⟨cx20, cx21, fx20, fx21⟩ := x2.c2
    have lx2 := x2.lt
    obtain ⟨cx50, cx51, fx50, fx51⟩ := x5.c2
    have lx5 := x5.lt
    obtain ⟨a3, k3, b3, n3, rfl⟩ := hu3.slices
    have e3 := hu3.is
    simp only [List.length_nil] at e3
    clear hu3
    have C4 := crash_any p q _ 18446744073709551615 (by decide) (by decide) _ (HD.out.later (chain hW3 (alloc_below w3 (.cells #[.slice a3 C.length k3, .slice b3 0 n3] 25))) (Nat.le_refl _))
    rw [HE.out, HA.out] at C4
    have HC4 := Lib.hid C4
    clear C4
    go_wp2_with fail
    refine (HC4.out).mono ?_
    rintro e w4 ⟨u4, rfl, hu4, hb4⟩
    clear cx20 cx21 fx20 fx21 lx2 cx50 cx51 fx50 fx51 lx5
    have hW4 := chain (chain hW3 (alloc_below _ _)) hb4
    replace e1 := e1.later (chain (alloc_below _ _) hb4) (Nat.le_refl _)
    replace e3 := e3.later (chain (alloc_below _ _) hb4) (Nat.le_refl _)
    replace x2 := (x2.alloc _).later hb4
    replace x5 := (x5.alloc _).later hb4
    have x7 := (Bx.new _ [.slice a3 C.length k3, .slice b3 0 n3] 25 (w3.heap.size) (by simp)).later hb4
    obtain ⟨cx20, cx21, fx20, fx21⟩ := x2.c2
    have lx2 := x2.lt
    obtain ⟨cx50, cx51, fx50, fx51⟩ := x5.c2
    have lx5 := x5.lt
    obtain ⟨cx70, cx71, fx70, fx71⟩ := x7.c2
    have lx7 := x7.lt
    obtain ⟨a4, k4, b4, n4, rfl⟩ := hu4.slices
    have e4 := hu4.is
    simp only [List.length_nil] at e4
    clear hu4
    have C5 := crash_any p q _ 0 (by decide) (by decide) _ (HD.out.later (chain hW4 (alloc_below w4 (.cells #[.slice a4 C.length k4, .slice b4 0 n4] 25))) (Nat.le_refl _))
    rw [HE.out, HZ.out] at C5
    have HC5 := Lib.hid C5
    clear C5
    go_wp2_with fail
    refine (HC5.out).mono ?_
    rintro e w5 ⟨u5, rfl, hu5, hb5⟩
    clear cx20 cx21 fx20 fx21 lx2 cx50 cx51 fx50 fx51 lx5 cx70 cx71 fx70 fx71 lx7
    have hW5 := chain (chain hW4 (alloc_below _ _)) hb5
    replace e1 := e1.later (chain (alloc_below _ _) hb5) (Nat.le_refl _)
    replace e3 := e3.later (chain (alloc_below _ _) hb5) (Nat.le_refl _)
    replace e4 := e4.later (chain (alloc_below _ _) hb5) (Nat.le_refl _)
    replace x2 := (x2.alloc _).later hb5
    replace x5 := (x5.alloc _).later hb5
    replace x7 := (x7.alloc _).later hb5
    have x9 := (Bx.new _ [.slice a4 C.length k4, .slice b4 0 n4] 25 (w4.heap.size) (by simp)).later hb5
    obtain ⟨cx20, cx21, fx20, fx21⟩ := x2.c2
    have lx2 := x2.lt
    obtain ⟨cx50, cx51, fx50, fx51⟩ := x5.c2
    have lx5 := x5.lt
    obtain ⟨cx70, cx71, fx70, fx71⟩ := x7.c2
    have lx7 := x7.lt
    obtain ⟨cx90, cx91, fx90, fx91⟩ := x9.c2
    have lx9 := x9.lt
    obtain ⟨a5, k5, b5, n5, rfl⟩ := hu5.slices
    have e5 := hu5.is
    simp only [List.length_nil] at e5
    clear hu5
    have C6 := samedisk_any C C [] [] _ _ _ (e3.later (alloc_below w5 (.cells #[.slice a5 p.length k5, .slice b5 0 n5] 25)) (Nat.le_refl _)) (e1.later (alloc_below w5 (.cells #[.slice a5 p.length k5, .slice b5 0 n5] 25)) (Nat.le_refl _))
    rw [sameD_self] at C6
    have HC6 := Lib.hid C6
    clear C6
    go_wp2_with fail
    refine (HC6.out).mono ?_
    rintro e w6 ⟨rfl, hb6⟩
    clear cx20 cx21 fx20 fx21 lx2 cx50 cx51 fx50 fx51 lx5 cx70 cx71 fx70 fx71 lx7 cx90 cx91 fx90 fx91 lx9
    have hW6 := chain (chain hW5 (alloc_below _ _)) hb6
    replace e1 := e1.later (chain (alloc_below _ _) hb6) (Nat.le_refl _)
    replace e3 := e3.later (chain (alloc_below _ _) hb6) (Nat.le_refl _)
    replace e4 := e4.later (chain (alloc_below _ _) hb6) (Nat.le_refl _)
    replace e5 := e5.later (chain (alloc_below _ _) hb6) (Nat.le_refl _)
    replace x2 := (x2.alloc _).later hb6
    replace x5 := (x5.alloc _).later hb6
    replace x7 := (x7.alloc _).later hb6
    replace x9 := (x9.alloc _).later hb6
    have x11 := (Bx.new _ [.slice a5 p.length k5, .slice b5 0 n5] 25 (w5.heap.size) (by simp)).later hb6
    obtain ⟨cx20, cx21, fx20, fx21⟩ := x2.c2
    have lx2 := x2.lt
    obtain ⟨cx50, cx51, fx50, fx51⟩ := x5.c2
    have lx5 := x5.lt
    obtain ⟨cx70, cx71, fx70, fx71⟩ := x7.c2
    have lx7 := x7.lt
    obtain ⟨cx90, cx91, fx90, fx91⟩ := x9.c2
    have lx9 := x9.lt
    obtain ⟨cx110, cx111, fx110, fx111⟩ := x11.c2
    have lx11 := x11.lt
    have C7 := samedisk_any C C [] [] _ _ _ e4 e1
    rw [sameD_self] at C7
    have HC7 := Lib.hid C7
    clear C7
    go_wp2_with fail
    refine (HC7.out).mono ?_
    rintro e w7 ⟨rfl, hb7⟩
    clear cx20 cx21 fx20 fx21 lx2 cx50 cx51 fx50 fx51 lx5 cx70 cx71 fx70 fx71 lx7 cx90 cx91 fx90 fx91 lx9 cx110 cx111 fx110 fx111 lx11
    have hW7 := chain hW6 hb7
    replace e1 := e1.later hb7 (Nat.le_refl _)
    replace e3 := e3.later hb7 (Nat.le_refl _)
    replace e4 := e4.later hb7 (Nat.le_refl _)
    replace e5 := e5.later hb7 (Nat.le_refl _)
    replace x2 := x2.later hb7
    replace x5 := x5.later hb7
    replace x7 := x7.later hb7
    replace x9 := x9.later hb7
    replace x11 := x11.later hb7
    obtain ⟨cx20, cx21, fx20, fx21⟩ := x2.c2
    have lx2 := x2.lt
    obtain ⟨cx50, cx51, fx50, fx51⟩ := x5.c2
    have lx5 := x5.lt
    obtain ⟨cx70, cx71, fx70, fx71⟩ := x7.c2
    have lx7 := x7.lt
    obtain ⟨cx90, cx91, fx90, fx91⟩ := x9.c2
    have lx9 := x9.lt
    obtain ⟨cx110, cx111, fx110, fx111⟩ := x11.c2
    have lx11 := x11.lt
    obtain ⟨y1, y2, ey, hy1, _⟩ := id e5
    simp only [Value.agg.injEq, Array.mk.injEq, List.cons.injEq, and_true] at ey
    obtain ⟨rfl, rfl⟩ := ey
    obtain ⟨z1, z2, ez, hz1, _⟩ := HD.out.later hW7 (Nat.le_refl _)
    simp only [Value.agg.injEq, Array.mk.injEq, List.cons.injEq, and_true] at ez
    obtain ⟨rfl, rfl⟩ := ez
    have C8 := sametexts_any p p _ _ _ hy1 hz1
    rw [decide_eq_true rfl] at C8
    have HC8 := Lib.hid C8
    clear C8 hy1 hz1
    go_wp2_with fail
    refine (HC8.out).mono ?_
    rintro e w8 ⟨rfl, hb8⟩
    clear cx20 cx21 fx20 fx21 lx2 cx50 cx51 fx50 fx51 lx5 cx70 cx71 fx70 fx71 lx7 cx90 cx91 fx90 fx91 lx9 cx110 cx111 fx110 fx111 lx11
    have hW8 := chain hW7 hb8
    replace e1 := e1.later hb8 (Nat.le_refl _)
    replace e3 := e3.later hb8 (Nat.le_refl _)
    replace e4 := e4.later hb8 (Nat.le_refl _)
    replace e5 := e5.later hb8 (Nat.le_refl _)
    replace x2 := x2.later hb8
    replace x5 := x5.later hb8
    replace x7 := x7.later hb8
    replace x9 := x9.later hb8
    replace x11 := x11.later hb8
    obtain ⟨cx20, cx21, fx20, fx21⟩ := x2.c2
    have lx2 := x2.lt
    obtain ⟨cx50, cx51, fx50, fx51⟩ := x5.c2
    have lx5 := x5.lt
    obtain ⟨cx70, cx71, fx70, fx71⟩ := x7.c2
    have lx7 := x7.lt
    obtain ⟨cx90, cx91, fx90, fx91⟩ := x9.c2
    have lx9 := x9.lt
    obtain ⟨cx110, cx111, fx110, fx111⟩ := x11.c2
    have lx11 := x11.lt
    go_wp2_with fail
    go_ret
    exact ⟨by first | rfl | simp, hW8⟩
  · have HE := Lib.hid (show settleP p q (fun _ => true) = [] from if_neg hE)
    have hne : (check p q != 0) = true := by rw [bne_iff_ne]; exact hE
    clear hE
    go_enter Try.func5, Try.ntmps5
    have C1 := sync_any p q _ _ (HD.out.later (alloc_below w (.cells #[.slice a p.length cap, .slice a' q.length cap'] 25)) (Nat.le_refl _))
    rw [HE.out] at C1
    have HC1 := Lib.hid C1
    clear C1
    go_wp2_with fail
    refine (HC1.out).mono ?_
    rintro e w1 ⟨u1, rfl, hu1, hb1⟩
    have hW1 := chain (alloc_below _ _) hb1
    have x2 := (Bx.new _ [.slice a p.length cap, .slice a' q.length cap'] 25 (w.heap.size) (by simp)).later hb1
    obtain ⟨cx20, cx21, fx20, fx21⟩ := x2.c2
    have lx2 := x2.lt
    obtain ⟨a1, k1, b1, n1, rfl⟩ := hu1.slices
    have e1 := hu1.is
    simp only [List.length_nil] at e1
    clear hu1
    go_wp2_with fail
    refine (begun_any _).mono ?_
    rintro e w2 ⟨rfl, hb2⟩
    clear cx20 cx21 fx20 fx21 lx2
    have hW2 := chain (chain hW1 (alloc_below _ _)) hb2
    replace e1 := e1.later (chain (alloc_below _ _) hb2) (Nat.le_refl _)
    replace x2 := (x2.alloc _).later hb2
    have x5 := (Bx.new _ [.slice a1 0 k1, .slice b1 0 n1] 25 (w1.heap.size) (by simp)).later hb2
    obtain ⟨cx20, cx21, fx20, fx21⟩ := x2.c2
    have lx2 := x2.lt
    obtain ⟨cx50, cx51, fx50, fx51⟩ := x5.c2
    have lx5 := x5.lt
    have C3 := samedisk_any [] [] [] [] _ _ _ e1 (ownNone w2 0).is
    rw [sameD_self] at C3
    have HC3 := Lib.hid C3
    clear C3
    go_wp2_with fail
    refine (HC3.out).mono ?_
    rintro e w3 ⟨rfl, hb3⟩
    clear cx20 cx21 fx20 fx21 lx2 cx50 cx51 fx50 fx51 lx5
    have hW3 := chain hW2 hb3
    replace e1 := e1.later hb3 (Nat.le_refl _)
    replace x2 := x2.later hb3
    replace x5 := x5.later hb3
    obtain ⟨cx20, cx21, fx20, fx21⟩ := x2.c2
    have lx2 := x2.lt
    obtain ⟨cx50, cx51, fx50, fx51⟩ := x5.c2
    have lx5 := x5.lt
    go_wp2_with fail
    go_ret
    exact ⟨rfl, hW3⟩

/-! ### the row's step, by program -/
set_option maxRecDepth 100000 in
theorem lifted (os : Os) (started : os.Started) (H : Type) (enc : TypeId × Value → H) :
    ReturnsInHanded {} Try.checked os 5 .any (Rows.diskGoodSpec.pre6 enc Try.prog Try.f5 Rows.diskGoodRow.domain false) (Rows.diskGoodSpec.post enc Try.prog Try.f5 false true false false) := by
  refine returnsInHanded_of_change_sized (C := Try.checked) own started (by kernel_rfl) Try.func5
    (ChangeSpec.witness6 (enc := enc) (C := Try.checked) false ⟨#[], #[.agg #[.slice none 0 0, .slice none 0 0], .int .u64 0], []⟩ 8 (by kernel_rfl) (by kernel_rfl) (by kernel_rfl) (by kernel_rfl)) ?_
  intro W base args ds gs before hval0 hW hcnd hsz0 _
  have hval : ∀ (j : Nat) t v, Try.f5.params[j]? = some t → args[j]? = some v → Value.okWide Try.prog W .any base t v := hval0
  have hsz : (DataW.weightsEach Try.prog (Try.f5.params.toList ++ Rows.diskGoodSpec.plain.varTypes Try.prog) (ds ++ gs)).all (· ≤ reachBytes) = true := hsz0
  have hW' := hW
  obtain ⟨p, q, hA0, hV, rfl, hfz, hnd⟩ := hW
  have hA : DataW.TrodAll enc Try.prog W 0 (fun _ => true) true Try.f5.params.toList args.toList ds p := hA0
  rw [Try.params5] at hA hval hsz
  obtain ⟨v0, vs0, d0, ds0, p0, q0, hargs, rfl, rfl, h0, r0⟩ := trodAll_cons hA
  obtain ⟨v1, vs1, d1, ds1, p1, q1, rfl, rfl, rfl, h1, r1⟩ := trodAll_cons r0
  obtain ⟨rfl, rfl, rfl⟩ := trodAll_nil r1
  obtain rfl : args = #[v0, v1] := by cases args; simp_all
  obtain ⟨rfl, rfl⟩ := trodVars_none hV
  obtain ⟨x0, R0, k0⟩ := open_param DiskP.opens_disk h0 hsz (j := 0) (t := 25) rfl rfl
  have D0 := DiskP.DiskR.is (agg_cells Try.underlying25 (hval 0 25 v0 rfl rfl) rfl) R0
  obtain ⟨a1, rfl, rfl, rfl, wf1⟩ := open_int Try.underlying26 (hval 1 26 v1 rfl rfl) h1
  have w1 : 0 ≤ a1 ∧ a1 ≤ 18446744073709551615 := by simpa [Lit.wf, IntKind.min, IntKind.max, IntKind.signed, IntKind.bits] using wf1
  clear hA0 hval0
  refine (walk x0 k0 v0 a1 w1.1 w1.2 W D0).mono fun e W' ⟨he, bel⟩ => ?_
  subst he
  exact ⟨_, rfl, post_true laidOut (by kernel_rfl) Try.underlying4 (by kernel_rfl) rfl hW' rfl bel⟩

theorem proved : Rows.DiskGoodSaid :=
  OpenClaim.holds_of_wide 5 Try.f5 rfl rfl rfl rfl rfl rfl rfl ⟨rfl, rfl, rfl, rfl, rfl⟩ rfl rfl rfl rfl rfl (by kernel_rfl) Try.func5 (by kernel_rfl)
    (of_decide_eq_true (by kernel_rfl)) (by unfold Func.isWrapper; first | (rw [if_pos (by decide +kernel)]; kernel_rfl) | (rw [if_neg (by decide +kernel)]; exact ⟨rfl, rfl⟩))
    (fun os started H enc _ => lifted os started H enc)

end Go.Proofs.Ytjfamijedcpjcaa.diskGood

