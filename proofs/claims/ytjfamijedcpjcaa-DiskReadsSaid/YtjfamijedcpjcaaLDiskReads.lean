/- DiskReads: what was written is read, and all other pages as they were; and so behind a Sync. Conditions: none beyond the statement's own. -/
import Derived.Test.YtjfamijedcpjcaaDiskOpen
import Derived.Test.YtjfamijedcpjcaaDiskBegun
import Derived.Test.YtjfamijedcpjcaaDiskFacts
namespace Go.Proofs.Ytjfamijedcpjcaa.diskReads
open Go.ChangeShapes Go.WideShapes Go.ChangeAt Go.RowKit
open Go.ChangeMaps (open_string shut_string)
set_option linter.unusedVariables false

open K DiskP
attribute [local go_sem ↓] Go.wp_at_zero Go.wp_at_succ

set_option maxRecDepth 100000 in
set_option maxHeartbeats 4000000 in
theorem walk (x : List ByteArray × List Wr) (_ok : DiskOk x) (d : Value) (n : Int) (_n0 : -9223372036854775808 ≤ n) (_n1 : n ≤ 9223372036854775807) (s : ByteArray) (_s0 : s.size ≤ 140737488351232) (o : Int) (_o0 : -9223372036854775808 ≤ o) (_o1 : o ≤ 9223372036854775807) (w : World) (hd : IsDisk w d x.1 x.2) :
    Calls Try.prog 4 #[d, .int .i64 n, .string s, .int .i64 o] w fun e w' => e = .returned (.bool true) ∧ Below w.heap.size w w' := by
  obtain ⟨p, q⟩ := x
  simp only at hd
  obtain ⟨vp, vq, rfl, hsp, hsq⟩ := id hd
  obtain ⟨_, a, cap, rfl, _, _, _, _⟩ := id hsp
  obtain ⟨_, a', cap', rfl, _, _, _, _⟩ := id hsq
  clear hsp hsq
  have HD := Lib.hid hd
  clear hd
  by_cases hE : writeE p q n s = 0
  · have HE := Lib.hid hE
    have HP := Lib.hid (writeP_yes hE)
    have HQ := Lib.hid (write_check hE)
    have HW := Lib.hid (read_written hE)
    have HO := Lib.hid (read_other hE o)
    have HS := Lib.hid (settleP_crash p (q ++ [(n, s)]) (fun _ => true) 18446744073709551615 (fun i hi => (bitAt_all i (by omega)).symm))
    clear hE
    have ho : (o == n) = true ∨ ((o == n) = false ∧ Hid (readR p (q ++ [(n, s)]) o = readR p q o)) := by
      cases h : (o == n)
      · exact .inr ⟨rfl, Lib.hid (HO.out.2 (by simpa using h))⟩
      · exact .inl rfl
    go_enter Try.func4, Try.ntmps4
    have C1 := write_any p q _ n s _ (HD.out.later (alloc_below w (.cells #[.slice a p.length cap, .slice a' q.length cap'] 25)) (Nat.le_refl _))
    rw [HP.out.1, HP.out.2, HE.out] at C1
    have HC1 := Lib.hid C1
    clear C1
    go_wp2_with fail
    refine (HC1.out).mono ?_
    rintro e w1 ⟨u1, rfl, hu1, hb1⟩
    have hW1 := chain (alloc_below _ _) hb1
    have x4 := (Bx.new _ [.slice a p.length cap, .slice a' q.length cap'] 25 (w.heap.size) (by simp)).later hb1
    obtain ⟨cx40, cx41, fx40, fx41⟩ := x4.c2
    have lx4 := x4.lt
    obtain ⟨a1, k1, b1, m1, rfl⟩ := hu1.slices
    have e1 := hu1.is
    simp only [List.length_append, List.length_cons, List.length_nil, Nat.zero_add] at e1
    clear hu1
    go_wp2_with fail
    refine (begun_any _).mono ?_
    rintro e w2 ⟨rfl, hb2⟩
    clear cx40 cx41 fx40 fx41 lx4
    have hW2 := chain (chain hW1 (alloc_below _ _)) hb2
    replace e1 := e1.later (chain (alloc_below _ _) hb2) (Nat.le_refl _)
    replace x4 := (x4.alloc _).later hb2
    have x9 := (Bx.new _ [.slice a1 p.length k1, .slice b1 (q.length + 1) m1] 25 (w1.heap.size) (by simp)).later hb2
    obtain ⟨cx40, cx41, fx40, fx41⟩ := x4.c2
    have lx4 := x4.lt
    obtain ⟨cx90, cx91, fx90, fx91⟩ := x9.c2
    have lx9 := x9.lt
    have C3 := sync_any p (q ++ [(n, s)]) _ _ e1
    rw [HS.out, HQ.out] at C3
    have HC3 := Lib.hid C3
    clear C3
    go_wp2_with fail
    refine (HC3.out).mono ?_
    rintro e w3 ⟨u3, rfl, hu3, hb3⟩
    clear cx40 cx41 fx40 fx41 lx4 cx90 cx91 fx90 fx91 lx9
    have hW3 := chain hW2 hb3
    replace e1 := e1.later hb3 (Nat.le_refl _)
    replace x4 := x4.later hb3
    replace x9 := x9.later hb3
    obtain ⟨cx40, cx41, fx40, fx41⟩ := x4.c2
    have lx4 := x4.lt
    obtain ⟨cx90, cx91, fx90, fx91⟩ := x9.c2
    have lx9 := x9.lt
    obtain ⟨a3, k3, b3, m3, rfl⟩ := hu3.slices
    have e3 := hu3.is
    simp only [List.length_nil] at e3
    clear hu3
    have C4 := read_any p (q ++ [(n, s)]) _ n _ (e1.later (alloc_below w3 (.cells #[.slice a3 (crashP p (q ++ [(n, s)]) 18446744073709551615).length k3, .slice b3 0 m3] 25)) (Nat.le_refl _))
    rw [HW.out] at C4
    have HC4 := Lib.hid C4
    clear C4
    go_wp2_with fail
    refine (HC4.out).mono ?_
    rintro e w4 ⟨rfl, hb4⟩
    clear cx40 cx41 fx40 fx41 lx4 cx90 cx91 fx90 fx91 lx9
    have hW4 := chain (chain hW3 (alloc_below _ _)) hb4
    replace e1 := e1.later (chain (alloc_below _ _) hb4) (Nat.le_refl _)
    replace e3 := e3.later (chain (alloc_below _ _) hb4) (Nat.le_refl _)
    replace x4 := (x4.alloc _).later hb4
    replace x9 := (x9.alloc _).later hb4
    have x11 := (Bx.new _ [.slice a3 (crashP p (q ++ [(n, s)]) 18446744073709551615).length k3, .slice b3 0 m3] 25 (w3.heap.size) (by simp)).later hb4
    obtain ⟨cx40, cx41, fx40, fx41⟩ := x4.c2
    have lx4 := x4.lt
    obtain ⟨cx90, cx91, fx90, fx91⟩ := x9.c2
    have lx9 := x9.lt
    obtain ⟨cx110, cx111, fx110, fx111⟩ := x11.c2
    have lx11 := x11.lt
    have C5 := read_any (crashP p (q ++ [(n, s)]) 18446744073709551615) [] _ n _ e3
    rw [read_synced HQ.out, HW.out] at C5
    have HC5 := Lib.hid C5
    clear C5
    go_wp2_with fail
    refine (HC5.out).mono ?_
    rintro e w5 ⟨rfl, hb5⟩
    clear cx40 cx41 fx40 fx41 lx4 cx90 cx91 fx90 fx91 lx9 cx110 cx111 fx110 fx111 lx11
    have hW5 := chain hW4 hb5
    replace e1 := e1.later hb5 (Nat.le_refl _)
    replace e3 := e3.later hb5 (Nat.le_refl _)
    replace x4 := x4.later hb5
    replace x9 := x9.later hb5
    replace x11 := x11.later hb5
    obtain ⟨cx40, cx41, fx40, fx41⟩ := x4.c2
    have lx4 := x4.lt
    obtain ⟨cx90, cx91, fx90, fx91⟩ := x9.c2
    have lx9 := x9.lt
    obtain ⟨cx110, cx111, fx110, fx111⟩ := x11.c2
    have lx11 := x11.lt
    go_wp2_with fail
    refine (read_any p q _ o _ (HD.out.later hW5 (Nat.le_refl _))).mono ?_
    rintro e w6 ⟨rfl, hb6⟩
    clear cx40 cx41 fx40 fx41 lx4 cx90 cx91 fx90 fx91 lx9 cx110 cx111 fx110 fx111 lx11
    have hW6 := chain hW5 hb6
    replace e1 := e1.later hb6 (Nat.le_refl _)
    replace e3 := e3.later hb6 (Nat.le_refl _)
    replace x4 := x4.later hb6
    replace x9 := x9.later hb6
    replace x11 := x11.later hb6
    obtain ⟨cx40, cx41, fx40, fx41⟩ := x4.c2
    have lx4 := x4.lt
    obtain ⟨cx90, cx91, fx90, fx91⟩ := x9.c2
    have lx9 := x9.lt
    obtain ⟨cx110, cx111, fx110, fx111⟩ := x11.c2
    have lx11 := x11.lt
    have C7 := read_any p (q ++ [(n, s)]) _ o _ e1
    have C8 := fun d w h => read_any (crashP p (q ++ [(n, s)]) 18446744073709551615) [] d o w h
    simp only [read_synced HQ.out] at C8
    rcases ho with ho | ⟨ho, hr⟩
    · rw [HO.out.1] at C7
      simp only [HO.out.1] at C8
      have HC7 := Lib.hid C7
      have HC8 := Lib.hid C8
      clear C7 C8
      go_wp2_with fail
      refine (HC7.out).mono ?_
      rintro e w7 ⟨rfl, hb7⟩
      clear cx40 cx41 fx40 fx41 lx4 cx90 cx91 fx90 fx91 lx9 cx110 cx111 fx110 fx111 lx11
      have hW7 := chain hW6 hb7
      replace e1 := e1.later hb7 (Nat.le_refl _)
      replace e3 := e3.later hb7 (Nat.le_refl _)
      replace x4 := x4.later hb7
      replace x9 := x9.later hb7
      replace x11 := x11.later hb7
      obtain ⟨cx40, cx41, fx40, fx41⟩ := x4.c2
      have lx4 := x4.lt
      obtain ⟨cx90, cx91, fx90, fx91⟩ := x9.c2
      have lx9 := x9.lt
      obtain ⟨cx110, cx111, fx110, fx111⟩ := x11.c2
      have lx11 := x11.lt
      go_wp2_with fail
      refine (HC8.out _ _ e3).mono ?_
      rintro e w8 ⟨rfl, hb8⟩
      clear cx40 cx41 fx40 fx41 lx4 cx90 cx91 fx90 fx91 lx9 cx110 cx111 fx110 fx111 lx11
      have hW8 := chain hW7 hb8
      replace e1 := e1.later hb8 (Nat.le_refl _)
      replace e3 := e3.later hb8 (Nat.le_refl _)
      replace x4 := x4.later hb8
      replace x9 := x9.later hb8
      replace x11 := x11.later hb8
      obtain ⟨cx40, cx41, fx40, fx41⟩ := x4.c2
      have lx4 := x4.lt
      obtain ⟨cx90, cx91, fx90, fx91⟩ := x9.c2
      have lx9 := x9.lt
      obtain ⟨cx110, cx111, fx110, fx111⟩ := x11.c2
      have lx11 := x11.lt
      go_wp2_with fail
      go_ret
      exact ⟨by first | rfl | simp, hW8⟩
    · rw [hr.out] at C7
      simp only [hr.out] at C8
      have HC7 := Lib.hid C7
      have HC8 := Lib.hid C8
      clear C7 C8
      go_wp2_with fail
      refine (HC7.out).mono ?_
      rintro e w7 ⟨rfl, hb7⟩
      clear cx40 cx41 fx40 fx41 lx4 cx90 cx91 fx90 fx91 lx9 cx110 cx111 fx110 fx111 lx11
      have hW7 := chain hW6 hb7
      replace e1 := e1.later hb7 (Nat.le_refl _)
      replace e3 := e3.later hb7 (Nat.le_refl _)
      replace x4 := x4.later hb7
      replace x9 := x9.later hb7
      replace x11 := x11.later hb7
      obtain ⟨cx40, cx41, fx40, fx41⟩ := x4.c2
      have lx4 := x4.lt
      obtain ⟨cx90, cx91, fx90, fx91⟩ := x9.c2
      have lx9 := x9.lt
      obtain ⟨cx110, cx111, fx110, fx111⟩ := x11.c2
      have lx11 := x11.lt
      go_wp2_with fail
      refine (HC8.out _ _ e3).mono ?_
      rintro e w8 ⟨rfl, hb8⟩
      clear cx40 cx41 fx40 fx41 lx4 cx90 cx91 fx90 fx91 lx9 cx110 cx111 fx110 fx111 lx11
      have hW8 := chain hW7 hb8
      replace e1 := e1.later hb8 (Nat.le_refl _)
      replace e3 := e3.later hb8 (Nat.le_refl _)
      replace x4 := x4.later hb8
      replace x9 := x9.later hb8
      replace x11 := x11.later hb8
      obtain ⟨cx40, cx41, fx40, fx41⟩ := x4.c2
      have lx4 := x4.lt
      obtain ⟨cx90, cx91, fx90, fx91⟩ := x9.c2
      have lx9 := x9.lt
      obtain ⟨cx110, cx111, fx110, fx111⟩ := x11.c2
      have lx11 := x11.lt
      go_wp2_with fail
      go_ret
      exact ⟨by first | rfl | simp, hW8⟩
  · have HE := Lib.hid hE
    have HP := Lib.hid (writeP_no hE)
    have hne : (writeE p q n s != 0) = true := by rw [bne_iff_ne]; exact hE
    clear hE
    go_enter Try.func4, Try.ntmps4
    have C1 := write_any p q _ n s _ (HD.out.later (alloc_below w (.cells #[.slice a p.length cap, .slice a' q.length cap'] 25)) (Nat.le_refl _))
    rw [HP.out.1, HP.out.2] at C1
    have HC1 := Lib.hid C1
    clear C1
    go_wp2_with fail
    refine (HC1.out).mono ?_
    rintro e w1 ⟨u1, rfl, hu1, hb1⟩
    have hW1 := chain (alloc_below _ _) hb1
    have x4 := (Bx.new _ [.slice a p.length cap, .slice a' q.length cap'] 25 (w.heap.size) (by simp)).later hb1
    obtain ⟨cx40, cx41, fx40, fx41⟩ := x4.c2
    have lx4 := x4.lt
    obtain ⟨a1, k1, b1, m1, rfl⟩ := hu1.slices
    have e1 := hu1.is
    simp only [List.length_nil] at e1
    clear hu1
    go_wp2_with fail
    refine (begun_any _).mono ?_
    rintro e w2 ⟨rfl, hb2⟩
    clear cx40 cx41 fx40 fx41 lx4
    have hW2 := chain (chain hW1 (alloc_below _ _)) hb2
    replace e1 := e1.later (chain (alloc_below _ _) hb2) (Nat.le_refl _)
    replace x4 := (x4.alloc _).later hb2
    have x9 := (Bx.new _ [.slice a1 0 k1, .slice b1 0 m1] 25 (w1.heap.size) (by simp)).later hb2
    obtain ⟨cx40, cx41, fx40, fx41⟩ := x4.c2
    have lx4 := x4.lt
    obtain ⟨cx90, cx91, fx90, fx91⟩ := x9.c2
    have lx9 := x9.lt
    have C3 := samedisk_any [] [] [] [] _ _ _ e1 (ownNone w2 0).is
    rw [sameD_self] at C3
    have HC3 := Lib.hid C3
    clear C3
    go_wp2_with fail
    refine (HC3.out).mono ?_
    rintro e w3 ⟨rfl, hb3⟩
    clear cx40 cx41 fx40 fx41 lx4 cx90 cx91 fx90 fx91 lx9
    have hW3 := chain hW2 hb3
    replace e1 := e1.later hb3 (Nat.le_refl _)
    replace x4 := x4.later hb3
    replace x9 := x9.later hb3
    obtain ⟨cx40, cx41, fx40, fx41⟩ := x4.c2
    have lx4 := x4.lt
    obtain ⟨cx90, cx91, fx90, fx91⟩ := x9.c2
    have lx9 := x9.lt
    go_wp2_with fail
    go_ret
    exact ⟨rfl, hW3⟩

/-! ### the row's step, by program -/
set_option maxRecDepth 100000 in
theorem lifted (os : Os) (started : os.Started) (H : Type) (enc : TypeId × Value → H) :
    ReturnsInHanded {} Try.checked os 4 .any (Rows.diskReadsSpec.pre6 enc Try.prog Try.f4 Rows.diskReadsRow.domain false) (Rows.diskReadsSpec.post enc Try.prog Try.f4 false true false false) := by
  refine returnsInHanded_of_change_sized (C := Try.checked) own started (by kernel_rfl) Try.func4
    (ChangeSpec.witness6 (enc := enc) (C := Try.checked) false ⟨#[], #[.agg #[.slice none 0 0, .slice none 0 0], .int .i64 0, .string ByteArray.empty, .int .i64 0], []⟩ 8 (by kernel_rfl) (by kernel_rfl) (by kernel_rfl) (by kernel_rfl)) ?_
  intro W base args ds gs before hval0 hW hcnd hsz0 _
  have hval : ∀ (j : Nat) t v, Try.f4.params[j]? = some t → args[j]? = some v → Value.okWide Try.prog W .any base t v := hval0
  have hsz : (DataW.weightsEach Try.prog (Try.f4.params.toList ++ Rows.diskReadsSpec.plain.varTypes Try.prog) (ds ++ gs)).all (· ≤ reachBytes) = true := hsz0
  have hW' := hW
  obtain ⟨p, q, hA0, hV, rfl, hfz, hnd⟩ := hW
  have hA : DataW.TrodAll enc Try.prog W 0 (fun _ => true) true Try.f4.params.toList args.toList ds p := hA0
  rw [Try.params4] at hA hval hsz
  obtain ⟨v0, vs0, d0, ds0, p0, q0, hargs, rfl, rfl, h0, r0⟩ := trodAll_cons hA
  obtain ⟨v1, vs1, d1, ds1, p1, q1, rfl, rfl, rfl, h1, r1⟩ := trodAll_cons r0
  obtain ⟨v2, vs2, d2, ds2, p2, q2, rfl, rfl, rfl, h2, r2⟩ := trodAll_cons r1
  obtain ⟨v3, vs3, d3, ds3, p3, q3, rfl, rfl, rfl, h3, r3⟩ := trodAll_cons r2
  obtain ⟨rfl, rfl, rfl⟩ := trodAll_nil r3
  obtain rfl : args = #[v0, v1, v2, v3] := by cases args; simp_all
  obtain ⟨rfl, rfl⟩ := trodVars_none hV
  obtain ⟨x0, R0, k0⟩ := open_param DiskP.opens_disk h0 hsz (j := 0) (t := 25) rfl rfl
  have D0 := DiskP.DiskR.is (agg_cells Try.underlying25 (hval 0 25 v0 rfl rfl) rfl) R0
  obtain ⟨a1, rfl, rfl, rfl, wf1⟩ := open_int Try.underlying3 (hval 1 3 v1 rfl rfl) h1
  have w1 : -9223372036854775808 ≤ a1 ∧ a1 ≤ 9223372036854775807 := by simpa [Lit.wf, IntKind.min, IntKind.max, IntKind.signed, IntKind.bits] using wf1
  obtain ⟨a2, rfl, rfl, rfl, wm2⟩ := open_string Try.underlying9 (hval 2 9 v2 rfl rfl) h2
  have w2 : a2.size ≤ 140737488351232 := by
    have := sized_string hsz (j := 2) (t := 9) rfl rfl
    simpa [reachBytes] using this
  obtain ⟨a3, rfl, rfl, rfl, wf3⟩ := open_int Try.underlying3 (hval 3 3 v3 rfl rfl) h3
  have w3 : -9223372036854775808 ≤ a3 ∧ a3 ≤ 9223372036854775807 := by simpa [Lit.wf, IntKind.min, IntKind.max, IntKind.signed, IntKind.bits] using wf3
  clear hA0 hval0
  refine (walk x0 k0 v0 a1 w1.1 w1.2 a2 w2 a3 w3.1 w3.2 W D0).mono fun e W' ⟨he, bel⟩ => ?_
  subst he
  exact ⟨_, rfl, post_true laidOut (by kernel_rfl) Try.underlying4 (by kernel_rfl) rfl hW' rfl bel⟩

theorem proved : Rows.DiskReadsSaid :=
  OpenClaim.holds_of_wide 4 Try.f4 rfl rfl rfl rfl rfl rfl rfl ⟨rfl, rfl, rfl, rfl, rfl⟩ rfl rfl rfl rfl rfl (by kernel_rfl) Try.func4 (by kernel_rfl)
    (of_decide_eq_true (by kernel_rfl)) (by unfold Func.isWrapper; first | (rw [if_pos (by decide +kernel)]; kernel_rfl) | (rw [if_neg (by decide +kernel)]; exact ⟨rfl, rfl⟩))
    (fun os started H enc _ => lifted os started H enc)

end Go.Proofs.Ytjfamijedcpjcaa.diskReads

