/- DiskEither: behind a crash each page is what was there for good, or one of the writes that waited for it. Conditions: none beyond the statement's own. -/
import Derived.Test.YtjfamijedcpjcaaDiskOpen
import Derived.Test.YtjfamijedcpjcaaDiskBegun
import Derived.Test.YtjfamijedcpjcaaDiskFacts
namespace Go.Proofs.Ytjfamijedcpjcaa.diskEither
open Go.ChangeShapes Go.WideShapes Go.ChangeAt Go.RowKit
open Go.ChangeMaps (open_string shut_string)
set_option linter.unusedVariables false

open K DiskP
attribute [local go_sem ↓] Go.wp_at_zero Go.wp_at_succ

theorem any_take (q : List Wr) (k : Nat) (hk : k < q.length) (f : Wr → Bool) : (q.take (k + 1)).any f = ((q.take k).any f || f q[k]) := by
  rw [List.take_succ_eq_append_getElem hk, List.any_append]; simp

set_option maxRecDepth 100000 in
set_option maxHeartbeats 4000000 in
theorem walk (x : List ByteArray × List Wr) (_ok : DiskOk x) (d : Value) (m : Int) (m0 : 0 ≤ m) (m1 : m ≤ 18446744073709551615) (n : Int) (_n0 : -9223372036854775808 ≤ n) (_n1 : n ≤ 9223372036854775807) (w : World) (hd : IsDisk w d x.1 x.2) :
    Calls Try.prog 6 #[d, .int .u64 m, .int .i64 n] w fun e w' => e = .returned (.bool true) ∧ Below w.heap.size w w' := by
  obtain ⟨p, q⟩ := x
  simp only at hd
  obtain ⟨vp, vq, rfl, hsp, hsq⟩ := id hd
  obtain ⟨_, a, cap, rfl, _, _, _, _⟩ := id hsp
  obtain ⟨_, a', cap', rfl, _, _, _, _⟩ := id hsq
  clear hsp hsq
  have HD := Lib.hid hd
  clear hd
  by_cases hE : check p q = 0
  · by_cases hn : 0 ≤ n ∧ n < 32
    · have HE := Lib.hid hE
      have hi := inPlace_t hn
      have hcr : settleP p q (bitAt m) = crashP p q m := settleP_crash p q (bitAt m) m (fun i _ => rfl)
      have HR := Lib.hid (show readR (crashP p q m) [] n = (lastOn (pageAt p n) (kept (bitAt m) q) n, 0) by rw [read_settled m hE, if_neg (by rw [hi]; decide)])
      have hei := lastOn_either (pageAt p n) (kept (bitAt m) q) n
      have HF := Lib.hid (show (decide (lastOn (pageAt p n) (kept (bitAt m) q) n = pageAt p n) || q.any fun x => x.1 == n && decide (x.2 = lastOn (pageAt p n) (kept (bitAt m) q) n)) = true by
        rcases hei with h | ⟨y, hy, h1, h2⟩
        · rw [h]; simp
        · rw [Bool.or_eq_true]; right
          exact List.any_eq_true.2 ⟨y, kept_mem _ _ _ hy, by rw [h1, h2]; simp⟩)
      clear hei hi
      rw [← hcr] at HR
      clear hcr
      generalize lastOn (pageAt p n) (kept (bitAt m) q) n = S at *
      generalize hC : settleP p q (bitAt m) = C at *
      have HC := Lib.hid (And.intro hC hE)
      have HC := Lib.hid (show settleP p q (bitAt m) = C from hC)
      clear hC hE
      obtain ⟨n0, n1⟩ := hn
      go_enter Try.func6, Try.ntmps6
      have C1 := crash_any p q _ m m0 m1 _ (HD.out.later (alloc_below w (.cells #[.slice a p.length cap, .slice a' q.length cap'] 25)) (Nat.le_refl _))
      rw [HC.out, HE.out] at C1
      have HC1 := Lib.hid C1
      clear C1
      go_wp2_with fail
      refine (HC1.out).mono ?_
      rintro e w1 ⟨u1, rfl, hu1, hb1⟩
      have hW1 := chain (alloc_below _ _) hb1
      have x3 := (Bx.new _ [.slice a p.length cap, .slice a' q.length cap'] 25 (w.heap.size) (by simp)).later hb1
      obtain ⟨cx30, cx31, fx30, fx31⟩ := x3.c2
      have lx3 := x3.lt
      obtain ⟨a1, k1, b1, n1, rfl⟩ := hu1.slices
      have e1 := hu1.is
      simp only [List.length_nil] at e1
      clear hu1
      go_wp2_with fail
      refine (begun_any _).mono ?_
      rintro e w2 ⟨rfl, hb2⟩
      clear cx30 cx31 fx30 fx31 lx3
      have hW2 := chain (chain hW1 (alloc_below _ _)) hb2
      replace e1 := e1.later (chain (alloc_below _ _) hb2) (Nat.le_refl _)
      replace x3 := (x3.alloc _).later hb2
      have x7 := (Bx.new _ [.slice a1 C.length k1, .slice b1 0 n1] 25 (w1.heap.size) (by simp)).later hb2
      obtain ⟨cx30, cx31, fx30, fx31⟩ := x3.c2
      have lx3 := x3.lt
      obtain ⟨cx70, cx71, fx70, fx71⟩ := x7.c2
      have lx7 := x7.lt
      have C3 := read_any C [] _ n _ e1
      rw [HR.out] at C3
      have HC3 := Lib.hid C3
      clear C3
      go_wp2_with fail
      refine (HC3.out).mono ?_
      rintro e w3 ⟨rfl, hb3⟩
      clear cx30 cx31 fx30 fx31 lx3 cx70 cx71 fx70 fx71 lx7
      have hW3 := chain hW2 hb3
      replace e1 := e1.later hb3 (Nat.le_refl _)
      replace x3 := x3.later hb3
      replace x7 := x7.later hb3
      obtain ⟨cx30, cx31, fx30, fx31⟩ := x3.c2
      have lx3 := x3.lt
      obtain ⟨cx70, cx71, fx70, fx71⟩ := x7.c2
      have lx7 := x7.lt
      obtain ⟨z1, z2, ez, hz1, hz2⟩ := HD.out.later hW3 (Nat.le_refl _)
      simp only [Value.agg.injEq, Array.mk.injEq, List.cons.injEq, and_true] at ez
      obtain ⟨rfl, rfl⟩ := ez
      have HP4 := Lib.hid (pageat_any p _ n _ hz1)
      obtain ⟨_, av, capv, ev, hc1, hm1, _, hcs⟩ := hz2
      simp only [Value.slice.injEq, true_and] at ev
      obtain ⟨rfl, rfl⟩ := ev
      unfold maxLen at hm1
      clear hz1
      go_wp2_with fail
      refine HP4.out.mono ?_
      rintro e w4 ⟨rfl, rfl⟩
      have HEQ := Lib.hid (toList_beq S (pageAt p n))
      generalize hP : pageAt p n = P at *
      have HP := Lib.hid hP
      clear hP
      go_wp2_with fail
      rw [HEQ.out]
      go_loop [11, 12] (fun v i => ∃ k : Nat, k ≤ q.length ∧ i = .int .i64 (k : Int) ∧ v = .bool (decide (S = P) || (q.take k).any fun x => x.1 == n && decide (x.2 = S))) (fun _ i => q.length - (intOf i).toNat)
      case atStart => exact ⟨0, by omega, rfl, by simp⟩
      case round =>
        obtain ⟨k, hk, rfl, rfl⟩ := hrel
        by_cases h : k < q.length
        · obtain ⟨b, off, rfl, hb, cl⟩ := hcs.resolve_left (by omega)
          have g0 := cl _ _ (wrCells_at q k h).1
          have g1 := cl _ _ (wrCells_at q k h).2
          rw [← Nat.add_assoc] at g1
          have HT := Lib.hid (any_take q k h fun x => x.1 == n && decide (x.2 = S))
          have htt := toList_beq q[k].2 S
          generalize q[k].1 = a0 at *
          generalize q[k].2 = t at *
          clear cl hcs
          generalize hbk : (decide (S = P) || (q.take k).any fun x => x.1 == n && decide (x.2 = S)) = bk at *
          have HBK := Lib.hid hbk
          clear hbk
          cases bk <;> cases x1 : (a0 == n) <;> cases x2 : decide (t = S)
          all_goals
            have X1 := Lib.hid x1
            have X2 := Lib.hid x2
            rw [x2] at htt
            clear x2
            go_wp2_with fail
            go_round
            case rel => exact ⟨k + 1, by omega, by go_num, by rw [HT.out, ← Bool.or_assoc, HBK.out, X1.out, X2.out] <;> rfl⟩
            case measure => simp [intOf]; omega
        · obtain rfl : k = q.length := by omega
          have HL := Lib.hid (List.take_length (l := q))
          rw [HL.out]
          rw [HF.out]
          go_wp2_with fail
          go_ret
          exact ⟨by first | rfl | simp, hW3⟩
    · have hn' : n < 0 ∨ (0 ≤ n ∧ 31 < n) := by omega
      rcases hn' with hn1 | ⟨hn1, hn2⟩
      all_goals
        have HC0 := Lib.hid hE
        generalize hC : settleP p q (bitAt m) = C at *
        have HC := Lib.hid (show settleP p q (bitAt m) = C from hC)
        have HCE := Lib.hid hE
        clear hC hE hn
        go_enter Try.func6, Try.ntmps6
        have C1 := crash_any p q _ m m0 m1 _ (HD.out.later (alloc_below w (.cells #[.slice a p.length cap, .slice a' q.length cap'] 25)) (Nat.le_refl _))
        rw [HC.out, HCE.out] at C1
        have HC1 := Lib.hid C1
        clear C1
        go_wp2_with fail
        refine (HC1.out).mono ?_
        rintro e w1 ⟨u1, rfl, hu1, hb1⟩
        have hW1 := chain (alloc_below _ _) hb1
        have x3 := (Bx.new _ [.slice a p.length cap, .slice a' q.length cap'] 25 (w.heap.size) (by simp)).later hb1
        obtain ⟨cx30, cx31, fx30, fx31⟩ := x3.c2
        have lx3 := x3.lt
        obtain ⟨a1, k1, b1, n1, rfl⟩ := hu1.slices
        have e1 := hu1.is
        simp only [List.length_nil] at e1
        clear hu1
        go_wp2_with fail
        refine (begun_any _).mono ?_
        rintro e w2 ⟨rfl, hb2⟩
        clear cx30 cx31 fx30 fx31 lx3
        have hW2 := chain (chain hW1 (alloc_below _ _)) hb2
        replace e1 := e1.later (chain (alloc_below _ _) hb2) (Nat.le_refl _)
        replace x3 := (x3.alloc _).later hb2
        have x7 := (Bx.new _ [.slice a1 C.length k1, .slice b1 0 n1] 25 (w1.heap.size) (by simp)).later hb2
        obtain ⟨cx30, cx31, fx30, fx31⟩ := x3.c2
        have lx3 := x3.lt
        obtain ⟨cx70, cx71, fx70, fx71⟩ := x7.c2
        have lx7 := x7.lt
        go_wp2_with fail
        go_ret
        exact ⟨rfl, (chain (chain hW1 (alloc_below _ _)) hb2)⟩
  · have hne : (check p q != 0) = true := by rw [bne_iff_ne]; exact hE
    generalize hC : settleP p q (bitAt m) = C at *
    have HC := Lib.hid (show settleP p q (bitAt m) = C from hC)
    clear hC hE
    go_enter Try.func6, Try.ntmps6
    have C1 := crash_any p q _ m m0 m1 _ (HD.out.later (alloc_below w (.cells #[.slice a p.length cap, .slice a' q.length cap'] 25)) (Nat.le_refl _))
    rw [HC.out] at C1
    have HC1 := Lib.hid C1
    clear C1
    go_wp2_with fail
    refine (HC1.out).mono ?_
    rintro e w1 ⟨u1, rfl, hu1, hb1⟩
    have hW1 := chain (alloc_below _ _) hb1
    have x3 := (Bx.new _ [.slice a p.length cap, .slice a' q.length cap'] 25 (w.heap.size) (by simp)).later hb1
    obtain ⟨cx30, cx31, fx30, fx31⟩ := x3.c2
    have lx3 := x3.lt
    obtain ⟨a1, k1, b1, n1, rfl⟩ := hu1.slices
    have e1 := hu1.is
    simp only [List.length_nil] at e1
    clear hu1
    go_wp2_with fail
    refine (begun_any _).mono ?_
    rintro e w2 ⟨rfl, hb2⟩
    clear cx30 cx31 fx30 fx31 lx3
    have hW2 := chain (chain hW1 (alloc_below _ _)) hb2
    replace e1 := e1.later (chain (alloc_below _ _) hb2) (Nat.le_refl _)
    replace x3 := (x3.alloc _).later hb2
    have x7 := (Bx.new _ [.slice a1 C.length k1, .slice b1 0 n1] 25 (w1.heap.size) (by simp)).later hb2
    obtain ⟨cx30, cx31, fx30, fx31⟩ := x3.c2
    have lx3 := x3.lt
    obtain ⟨cx70, cx71, fx70, fx71⟩ := x7.c2
    have lx7 := x7.lt
    go_wp2_with fail
    go_ret
    exact ⟨rfl, (chain (chain hW1 (alloc_below _ _)) hb2)⟩

/-! ### the row's step, by program -/
set_option maxRecDepth 100000 in
theorem lifted (os : Os) (started : os.Started) (H : Type) (enc : TypeId × Value → H) :
    ReturnsInHanded {} Try.checked os 6 .any (Rows.diskEitherSpec.pre6 enc Try.prog Try.f6 Rows.diskEitherRow.domain false) (Rows.diskEitherSpec.post enc Try.prog Try.f6 false true false false) := by
  refine returnsInHanded_of_change_sized (C := Try.checked) own started (by kernel_rfl) Try.func6
    (ChangeSpec.witness6 (enc := enc) (C := Try.checked) false ⟨#[], #[.agg #[.slice none 0 0, .slice none 0 0], .int .u64 0, .int .i64 0], []⟩ 8 (by kernel_rfl) (by kernel_rfl) (by kernel_rfl) (by kernel_rfl)) ?_
  intro W base args ds gs before hval0 hW hcnd hsz0 _
  have hval : ∀ (j : Nat) t v, Try.f6.params[j]? = some t → args[j]? = some v → Value.okWide Try.prog W .any base t v := hval0
  have hsz : (DataW.weightsEach Try.prog (Try.f6.params.toList ++ Rows.diskEitherSpec.plain.varTypes Try.prog) (ds ++ gs)).all (· ≤ reachBytes) = true := hsz0
  have hW' := hW
  obtain ⟨p, q, hA0, hV, rfl, hfz, hnd⟩ := hW
  have hA : DataW.TrodAll enc Try.prog W 0 (fun _ => true) true Try.f6.params.toList args.toList ds p := hA0
  rw [Try.params6] at hA hval hsz
  obtain ⟨v0, vs0, d0, ds0, p0, q0, hargs, rfl, rfl, h0, r0⟩ := trodAll_cons hA
  obtain ⟨v1, vs1, d1, ds1, p1, q1, rfl, rfl, rfl, h1, r1⟩ := trodAll_cons r0
  obtain ⟨v2, vs2, d2, ds2, p2, q2, rfl, rfl, rfl, h2, r2⟩ := trodAll_cons r1
  obtain ⟨rfl, rfl, rfl⟩ := trodAll_nil r2
  obtain rfl : args = #[v0, v1, v2] := by cases args; simp_all
  obtain ⟨rfl, rfl⟩ := trodVars_none hV
  obtain ⟨x0, R0, k0⟩ := open_param DiskP.opens_disk h0 hsz (j := 0) (t := 25) rfl rfl
  have D0 := DiskP.DiskR.is (agg_cells Try.underlying25 (hval 0 25 v0 rfl rfl) rfl) R0
  obtain ⟨a1, rfl, rfl, rfl, wf1⟩ := open_int Try.underlying26 (hval 1 26 v1 rfl rfl) h1
  have w1 : 0 ≤ a1 ∧ a1 ≤ 18446744073709551615 := by simpa [Lit.wf, IntKind.min, IntKind.max, IntKind.signed, IntKind.bits] using wf1
  obtain ⟨a2, rfl, rfl, rfl, wf2⟩ := open_int Try.underlying3 (hval 2 3 v2 rfl rfl) h2
  have w2 : -9223372036854775808 ≤ a2 ∧ a2 ≤ 9223372036854775807 := by simpa [Lit.wf, IntKind.min, IntKind.max, IntKind.signed, IntKind.bits] using wf2
  clear hA0 hval0
  refine (walk x0 k0 v0 a1 w1.1 w1.2 a2 w2.1 w2.2 W D0).mono fun e W' ⟨he, bel⟩ => ?_
  subst he
  exact ⟨_, rfl, post_true laidOut (by kernel_rfl) Try.underlying4 (by kernel_rfl) rfl hW' rfl bel⟩

theorem proved : Rows.DiskEitherSaid :=
  OpenClaim.holds_of_wide 6 Try.f6 rfl rfl rfl rfl rfl rfl rfl ⟨rfl, rfl, rfl, rfl, rfl⟩ rfl rfl rfl rfl rfl (by kernel_rfl) Try.func6 (by kernel_rfl)
    (of_decide_eq_true (by kernel_rfl)) (by unfold Func.isWrapper; first | (rw [if_pos (by decide +kernel)]; kernel_rfl) | (rw [if_neg (by decide +kernel)]; exact ⟨rfl, rfl⟩))
    (fun os started H enc _ => lifted os started H enc)

end Go.Proofs.Ytjfamijedcpjcaa.diskEither

