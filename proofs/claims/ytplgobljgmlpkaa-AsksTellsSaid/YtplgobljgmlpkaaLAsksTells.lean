/- AsksTells: Less, Same, In and Between answer what the document says, errors too. Conditions: none beyond the statement's own. -/
import Derived.Test.YtplgobljgmlpkaaAsksIn
import Derived.Test.YtplgobljgmlpkaaLogicOne
import Derived.Test.YtplgobljgmlpkaaLogic4
import Derived.Test.YtplgobljgmlpkaaLogicBegun
namespace Go.Proofs.Ytplgobljgmlpkaa.asksTells
open Go.ChangeShapes Go.WideShapes Go.ChangeAt Go.RowKit
open Go.ChangeMaps (open_string shut_string)
set_option linter.unusedVariables false

open K LogicP ValP
attribute [local go_sem ↓] Go.wp_at_zero Go.wp_at_succ

theorem checkAll_three (a b c : ValD) : checkAll [a, b, c] = if vcheck a = 0 then (if vcheck b = 0 then (if vcheck c = 0 then 0 else vcheck c) else vcheck b) else vcheck a := rfl
theorem checkAll_pair (a b : ValD) : checkAll [a, b] = if vcheck a = 0 then (if vcheck b = 0 then 0 else vcheck b) else vcheck a := rfl

theorem asks_all (a b c : ValD) (l : List ValD) :
    (((vcheck a != 0) = true ∧ (checkAll [a, b] != 0) = true ∧ (checkAll [a, b, c] != 0) = true ∧ vless a b = (0, checkAll [a, b]) ∧ vsame a b = (0, checkAll [a, b]) ∧ vbetween a b c = (0, checkAll [a, b, c])) ∧
      ((40 < l.length ∧ vin a l = (0, 2)) ∨ (l.length ≤ 40 ∧ vin a l = (0, vcheck a)))) ∨
    (vcheck a = 0 ∧
      ((checkAll [a, b] = 0 ∧ vless a b = (rless a b, 0) ∧ vsame a b = (rsame a b, 0) ∧ ((checkAll [a, b, c] = 0 ∧ vbetween a b c = (rbetween a b c, 0)) ∨ ((checkAll [a, b, c] != 0) = true ∧ vbetween a b c = (0, checkAll [a, b, c])))) ∨
       ((checkAll [a, b] != 0) = true ∧ (checkAll [a, b, c] != 0) = true ∧ vless a b = (0, checkAll [a, b]) ∧ vsame a b = (0, checkAll [a, b]) ∧ vbetween a b c = (0, checkAll [a, b, c]))) ∧
      ((40 < l.length ∧ vin a l = (0, 2)) ∨ (l.length ≤ 40 ∧ checkAll l = 0 ∧ vin a l = (rin a l, 0)) ∨ (l.length ≤ 40 ∧ (checkAll l != 0) = true ∧ vin a l = (0, checkAll l)))) := by
  have h1 := checkAll_pair a b
  have h2 := checkAll_three a b c
  have hin : vin a l = if 40 < l.length then (0, 2) else if vcheck a ≠ 0 then (0, vcheck a) else (checkedV l (rin a l), checkAll l) := rfl
  simp only [bne_iff_ne]
  by_cases ha : vcheck a = 0
  · right
    rw [if_pos ha] at h1 h2
    refine ⟨ha, ?_, ?_⟩
    · by_cases hb : vcheck b = 0
      · rw [if_pos hb] at h1 h2
        left
        refine ⟨h1, by unfold vless checkedV; rw [if_pos h1, h1], by unfold vsame checkedV; rw [if_pos h1, h1], ?_⟩
        by_cases hc : checkAll [a, b, c] = 0
        · exact .inl ⟨hc, by unfold vbetween checkedV; rw [if_pos hc, hc]⟩
        · exact .inr ⟨hc, by unfold vbetween checkedV; rw [if_neg hc]⟩
      · rw [if_neg hb] at h1 h2
        right
        have k1 : checkAll [a, b] ≠ 0 := by rw [h1]; exact hb
        have k2 : checkAll [a, b, c] ≠ 0 := by rw [h2]; exact hb
        exact ⟨k1, k2, by unfold vless checkedV; rw [if_neg k1], by unfold vsame checkedV; rw [if_neg k1], by unfold vbetween checkedV; rw [if_neg k2]⟩
    · by_cases hl : 40 < l.length
      · exact .inl ⟨hl, hin.trans (if_pos hl)⟩
      · right
        rw [if_neg hl, if_neg (fun h => h ha)] at hin
        by_cases hc : checkAll l = 0
        · exact .inl ⟨by omega, hc, by rw [hin]; unfold checkedV; rw [if_pos hc, hc]⟩
        · exact .inr ⟨by omega, hc, by rw [hin]; unfold checkedV; rw [if_neg hc]⟩
  · left
    rw [if_neg ha] at h1 h2
    have k1 : checkAll [a, b] ≠ 0 := by rw [h1]; exact ha
    have k2 : checkAll [a, b, c] ≠ 0 := by rw [h2]; exact ha
    refine ⟨⟨ha, k1, k2, by unfold vless checkedV; rw [if_neg k1], by unfold vsame checkedV; rw [if_neg k1], by unfold vbetween checkedV; rw [if_neg k2]⟩, ?_⟩
    by_cases hl : 40 < l.length
    · exact .inl ⟨hl, hin.trans (if_pos hl)⟩
    · exact .inr ⟨by omega, by rw [hin, if_neg hl, if_pos ha]⟩

set_option maxRecDepth 100000 in
set_option maxHeartbeats 8000000 in
set_option linter.unusedVariables false in
theorem walk (a : ValD) (oa : valOk a) (va : Value) (b : ValD) (ob : valOk b) (vb : Value) (c : ValD) (oc : valOk c) (vc : Value) (l : List ValD) (_ol : l.length * Try.prog.bytesOf 27 ≤ 140737488351232 ∧ ∀ x ∈ l, valOk x) (vl : Value) (w : World) (ha : IsVal va a) (hb : IsVal vb b) (hc : IsVal vc c) (hs : Seen w vl l.length 3 (valCells l)) :
    Calls Try.prog 5 #[va, vb, vc, vl] w fun e w' => e = .returned (.bool true) ∧ Below w.heap.size w w' := by
  rw [ha, hb, hc]
  clear ha hb hc
  obtain ⟨_, ad, cap, rfl, _, hcap, _, _⟩ := id hs
  have HF := asks_all a b c l
  have C1 := fun W => less_any a b W
  have C2 := fun W => same_any a b W
  have C3 := fun W v h => in_any a l v W h
  have C4 := fun W => between_any a b c W
  have D1 := fun W v h => checkvalues_any [a, b] v W h
  have D2 := fun W => show Calls Try.prog 19 #[.agg #[.int .i64 a.1, .int .i64 a.2.1, .string a.2.2]] W fun e w' => e = .returned (.int .i64 (vcheck a)) ∧ Below W.heap.size W w' from checkvalue_any a.1 a.2.1 a.2.2 W
  have D3 := fun W v h => checkvalues_any l v W h
  have D4 := fun W v h => checkvalues_any [a, b, c] v W h
  have E1 := fun W => lessof_any a b oa.2.2 ob.2.2 W
  have E2 := fun W => sameof_any a b W
  have E3 := fun W v k h => inof_any a l v W k h
  have E4 := fun W => betweenof_any a b c oa.2.2 ob.2.2 oc.2.2 W
  generalize vless a b = r1 at *
  generalize vsame a b = r2 at *
  generalize vin a l = r3 at *
  generalize vbetween a b c = r4 at *
  generalize rless a b = s1 at *
  generalize rsame a b = s2 at *
  generalize rin a l = s3 at *
  generalize rbetween a b c = s4 at *
  generalize checkAll [a, b] = u at *
  generalize checkAll [a, b, c] = v3 at *
  generalize checkAll l = vv at *
  generalize vcheck a = va0 at *
  obtain ⟨x, p⟩ := r1
  obtain ⟨y, q⟩ := r2
  obtain ⟨z, r⟩ := r3
  obtain ⟨t, h⟩ := r4
  simp only [Prod.mk.injEq] at HF
  simp only at C1 C2 C3 C4
  have HF1 := Lib.hid HF
  have HC1 := Lib.hid C1
  have HC2 := Lib.hid C2
  have HC3 := Lib.hid C3
  have HC4 := Lib.hid C4
  have HD1 := Lib.hid D1
  have HD2 := Lib.hid D2
  have HD3 := Lib.hid D3
  have HD4 := Lib.hid D4
  have HE1 := Lib.hid E1
  have HE2 := Lib.hid E2
  have HE3 := Lib.hid E3
  have HE4 := Lib.hid E4
  clear HF C1 C2 C3 C4 D1 D2 D3 D4 E1 E2 E3 E4 oa ob oc _ol
  go_enter Try.func5, Try.ntmps5
  go_wp2_with fail
  refine (HC1.out _).mono ?_
  rintro e w1 ⟨rfl, hb1⟩
  have hW1 := chain (chain (chain (alloc_below _ _) (alloc_below _ _)) (alloc_below _ _)) hb1
  replace hs := hs.later (chain (chain (chain (alloc_below _ _) (alloc_below _ _)) (alloc_below _ _)) hb1) (Nat.le_refl _)
  have ba := (((Bx.new _ [.int .i64 a.1, .int .i64 a.2.1, .string a.2.2] 27 (w.heap.size) (by simp)).alloc _).alloc _).later hb1
  have bb := ((Bx.new _ [.int .i64 b.1, .int .i64 b.2.1, .string b.2.2] 27 (w.heap.size + 1) (by simp)).alloc _).later hb1
  have bc := (Bx.new _ [.int .i64 c.1, .int .i64 c.2.1, .string c.2.2] 27 (w.heap.size + 1 + 1) (by simp)).later hb1
  obtain ⟨cba0, cba1, cba2, fba0, fba1, fba2⟩ := ba.c3
  have lba := ba.lt
  obtain ⟨cbb0, cbb1, cbb2, fbb0, fbb1, fbb2⟩ := bb.c3
  have lbb := bb.lt
  obtain ⟨cbc0, cbc1, cbc2, fbc0, fbc1, fbc2⟩ := bc.c3
  have lbc := bc.lt
  go_wp2_with fail
  refine (HC2.out _).mono ?_
  rintro e w2 ⟨rfl, hb2⟩
  clear cba0 cba1 cba2 fba0 fba1 fba2 lba cbb0 cbb1 cbb2 fbb0 fbb1 fbb2 lbb cbc0 cbc1 cbc2 fbc0 fbc1 fbc2 lbc
  have hW2 := chain hW1 hb2
  replace hs := hs.later hb2 (Nat.le_refl _)
  replace ba := ba.later hb2
  replace bb := bb.later hb2
  replace bc := bc.later hb2
  obtain ⟨cba0, cba1, cba2, fba0, fba1, fba2⟩ := ba.c3
  have lba := ba.lt
  obtain ⟨cbb0, cbb1, cbb2, fbb0, fbb1, fbb2⟩ := bb.c3
  have lbb := bb.lt
  obtain ⟨cbc0, cbc1, cbc2, fbc0, fbc1, fbc2⟩ := bc.c3
  have lbc := bc.lt
  go_wp2_with fail
  refine (HC3.out _ _ hs).mono ?_
  rintro e w3 ⟨rfl, hb3⟩
  clear cba0 cba1 cba2 fba0 fba1 fba2 lba cbb0 cbb1 cbb2 fbb0 fbb1 fbb2 lbb cbc0 cbc1 cbc2 fbc0 fbc1 fbc2 lbc
  have hW3 := chain hW2 hb3
  replace hs := hs.later hb3 (Nat.le_refl _)
  replace ba := ba.later hb3
  replace bb := bb.later hb3
  replace bc := bc.later hb3
  obtain ⟨cba0, cba1, cba2, fba0, fba1, fba2⟩ := ba.c3
  have lba := ba.lt
  obtain ⟨cbb0, cbb1, cbb2, fbb0, fbb1, fbb2⟩ := bb.c3
  have lbb := bb.lt
  obtain ⟨cbc0, cbc1, cbc2, fbc0, fbc1, fbc2⟩ := bc.c3
  have lbc := bc.lt
  go_wp2_with fail
  refine (HC4.out _).mono ?_
  rintro e w4 ⟨rfl, hb4⟩
  clear cba0 cba1 cba2 fba0 fba1 fba2 lba cbb0 cbb1 cbb2 fbb0 fbb1 fbb2 lbb cbc0 cbc1 cbc2 fbc0 fbc1 fbc2 lbc
  have hW4 := chain hW3 hb4
  replace hs := hs.later hb4 (Nat.le_refl _)
  replace ba := ba.later hb4
  replace bb := bb.later hb4
  replace bc := bc.later hb4
  obtain ⟨cba0, cba1, cba2, fba0, fba1, fba2⟩ := ba.c3
  have lba := ba.lt
  obtain ⟨cbb0, cbb1, cbb2, fbb0, fbb1, fbb2⟩ := bb.c3
  have lbb := bb.lt
  obtain ⟨cbc0, cbc1, cbc2, fbc0, fbc1, fbc2⟩ := bc.c3
  have lbc := bc.lt
  go_wp2_with fail
  refine (HD1.out _ _ (seen_vals w4 [a, b] _ 2 rfl rfl (by decide))).mono ?_
  rintro e w5 ⟨rfl, hb5⟩
  clear cba0 cba1 cba2 fba0 fba1 fba2 lba cbb0 cbb1 cbb2 fbb0 fbb1 fbb2 lbb cbc0 cbc1 cbc2 fbc0 fbc1 fbc2 lbc
  have hW5 := chain (chain hW4 (alloc_below _ _)) hb5
  replace hs := hs.later (chain (alloc_below _ _) hb5) (Nat.le_refl _)
  replace ba := (ba.alloc _).later hb5
  replace bb := (bb.alloc _).later hb5
  replace bc := (bc.alloc _).later hb5
  obtain ⟨cba0, cba1, cba2, fba0, fba1, fba2⟩ := ba.c3
  have lba := ba.lt
  obtain ⟨cbb0, cbb1, cbb2, fbb0, fbb1, fbb2⟩ := bb.c3
  have lbb := bb.lt
  obtain ⟨cbc0, cbc1, cbc2, fbc0, fbc1, fbc2⟩ := bc.c3
  have lbc := bc.lt
  go_wp2_with fail
  refine (HD2.out _).mono ?_
  rintro e w6 ⟨rfl, hb6⟩
  clear cba0 cba1 cba2 fba0 fba1 fba2 lba cbb0 cbb1 cbb2 fbb0 fbb1 fbb2 lbb cbc0 cbc1 cbc2 fbc0 fbc1 fbc2 lbc
  have hW6 := chain hW5 hb6
  replace hs := hs.later hb6 (Nat.le_refl _)
  replace ba := ba.later hb6
  replace bb := bb.later hb6
  replace bc := bc.later hb6
  obtain ⟨cba0, cba1, cba2, fba0, fba1, fba2⟩ := ba.c3
  have lba := ba.lt
  obtain ⟨cbb0, cbb1, cbb2, fbb0, fbb1, fbb2⟩ := bb.c3
  have lbb := bb.lt
  obtain ⟨cbc0, cbc1, cbc2, fbc0, fbc1, fbc2⟩ := bc.c3
  have lbc := bc.lt
  rcases HF1.out with ⟨⟨hva, hu, hw3, ⟨rfl, rfl⟩, ⟨rfl, rfl⟩, rfl, rfl⟩, hl⟩ | ⟨rfl, hu, hl⟩
  · clear HF1
    rcases hl with ⟨hl, rfl, rfl⟩ | ⟨hl, rfl, rfl⟩
    · go_wp2_with fail
      refine (HD4.out _ _ (seen_vals w6 [a, b, c] _ 3 rfl rfl (by decide))).mono ?_
      rintro e w7 ⟨rfl, hb7⟩
      clear cba0 cba1 cba2 fba0 fba1 fba2 lba cbb0 cbb1 cbb2 fbb0 fbb1 fbb2 lbb cbc0 cbc1 cbc2 fbc0 fbc1 fbc2 lbc
      have hW7 := chain (chain hW6 (alloc_below _ _)) hb7
      replace hs := hs.later (chain (alloc_below _ _) hb7) (Nat.le_refl _)
      replace ba := (ba.alloc _).later hb7
      replace bb := (bb.alloc _).later hb7
      replace bc := (bc.alloc _).later hb7
      obtain ⟨cba0, cba1, cba2, fba0, fba1, fba2⟩ := ba.c3
      have lba := ba.lt
      obtain ⟨cbb0, cbb1, cbb2, fbb0, fbb1, fbb2⟩ := bb.c3
      have lbb := bb.lt
      obtain ⟨cbc0, cbc1, cbc2, fbc0, fbc1, fbc2⟩ := bc.c3
      have lbc := bc.lt
      go_wp2_with fail
      refine (begun_any _).mono ?_
      rintro e w8 ⟨rfl, hb8⟩
      clear cba0 cba1 cba2 fba0 fba1 fba2 lba cbb0 cbb1 cbb2 fbb0 fbb1 fbb2 lbb cbc0 cbc1 cbc2 fbc0 fbc1 fbc2 lbc
      have hW8 := chain hW7 hb8
      replace hs := hs.later hb8 (Nat.le_refl _)
      replace ba := ba.later hb8
      replace bb := bb.later hb8
      replace bc := bc.later hb8
      obtain ⟨cba0, cba1, cba2, fba0, fba1, fba2⟩ := ba.c3
      have lba := ba.lt
      obtain ⟨cbb0, cbb1, cbb2, fbb0, fbb1, fbb2⟩ := bb.c3
      have lbb := bb.lt
      obtain ⟨cbc0, cbc1, cbc2, fbc0, fbc1, fbc2⟩ := bc.c3
      have lbc := bc.lt
      go_wp2_with fail
      go_ret
      exact ⟨by first | rfl | simp, hW8⟩
    · go_wp2_with fail
      refine (HD4.out _ _ (seen_vals w6 [a, b, c] _ 3 rfl rfl (by decide))).mono ?_
      rintro e w7 ⟨rfl, hb7⟩
      clear cba0 cba1 cba2 fba0 fba1 fba2 lba cbb0 cbb1 cbb2 fbb0 fbb1 fbb2 lbb cbc0 cbc1 cbc2 fbc0 fbc1 fbc2 lbc
      have hW7 := chain (chain hW6 (alloc_below _ _)) hb7
      replace hs := hs.later (chain (alloc_below _ _) hb7) (Nat.le_refl _)
      replace ba := (ba.alloc _).later hb7
      replace bb := (bb.alloc _).later hb7
      replace bc := (bc.alloc _).later hb7
      obtain ⟨cba0, cba1, cba2, fba0, fba1, fba2⟩ := ba.c3
      have lba := ba.lt
      obtain ⟨cbb0, cbb1, cbb2, fbb0, fbb1, fbb2⟩ := bb.c3
      have lbb := bb.lt
      obtain ⟨cbc0, cbc1, cbc2, fbc0, fbc1, fbc2⟩ := bc.c3
      have lbc := bc.lt
      go_wp2_with fail
      refine (begun_any _).mono ?_
      rintro e w8 ⟨rfl, hb8⟩
      clear cba0 cba1 cba2 fba0 fba1 fba2 lba cbb0 cbb1 cbb2 fbb0 fbb1 fbb2 lbb cbc0 cbc1 cbc2 fbc0 fbc1 fbc2 lbc
      have hW8 := chain hW7 hb8
      replace hs := hs.later hb8 (Nat.le_refl _)
      replace ba := ba.later hb8
      replace bb := bb.later hb8
      replace bc := bc.later hb8
      obtain ⟨cba0, cba1, cba2, fba0, fba1, fba2⟩ := ba.c3
      have lba := ba.lt
      obtain ⟨cbb0, cbb1, cbb2, fbb0, fbb1, fbb2⟩ := bb.c3
      have lbb := bb.lt
      obtain ⟨cbc0, cbc1, cbc2, fbc0, fbc1, fbc2⟩ := bc.c3
      have lbc := bc.lt
      go_wp2_with fail
      go_ret
      exact ⟨by first | rfl | simp, hW8⟩
  · clear HF1
    rcases hu with ⟨rfl, ⟨rfl, rfl⟩, ⟨rfl, rfl⟩, ⟨rfl, rfl, rfl⟩ | ⟨hw3, rfl, rfl⟩⟩ | ⟨hu, hw3, ⟨rfl, rfl⟩, ⟨rfl, rfl⟩, rfl, rfl⟩
    · rcases hl with ⟨hl, rfl, rfl⟩ | ⟨hl, rfl, rfl, rfl⟩ | ⟨hl, hvv, rfl, rfl⟩
      · go_wp2_with fail
        refine (HD3.out _ _ hs).mono ?_
        rintro e w7 ⟨rfl, hb7⟩
        clear cba0 cba1 cba2 fba0 fba1 fba2 lba cbb0 cbb1 cbb2 fbb0 fbb1 fbb2 lbb cbc0 cbc1 cbc2 fbc0 fbc1 fbc2 lbc
        have hW7 := chain hW6 hb7
        replace hs := hs.later hb7 (Nat.le_refl _)
        replace ba := ba.later hb7
        replace bb := bb.later hb7
        replace bc := bc.later hb7
        obtain ⟨cba0, cba1, cba2, fba0, fba1, fba2⟩ := ba.c3
        have lba := ba.lt
        obtain ⟨cbb0, cbb1, cbb2, fbb0, fbb1, fbb2⟩ := bb.c3
        have lbb := bb.lt
        obtain ⟨cbc0, cbc1, cbc2, fbc0, fbc1, fbc2⟩ := bc.c3
        have lbc := bc.lt
        go_wp2_with fail
        refine (HD4.out _ _ (seen_vals w7 [a, b, c] _ 3 rfl rfl (by decide))).mono ?_
        rintro e w8 ⟨rfl, hb8⟩
        clear cba0 cba1 cba2 fba0 fba1 fba2 lba cbb0 cbb1 cbb2 fbb0 fbb1 fbb2 lbb cbc0 cbc1 cbc2 fbc0 fbc1 fbc2 lbc
        have hW8 := chain (chain hW7 (alloc_below _ _)) hb8
        replace hs := hs.later (chain (alloc_below _ _) hb8) (Nat.le_refl _)
        replace ba := (ba.alloc _).later hb8
        replace bb := (bb.alloc _).later hb8
        replace bc := (bc.alloc _).later hb8
        obtain ⟨cba0, cba1, cba2, fba0, fba1, fba2⟩ := ba.c3
        have lba := ba.lt
        obtain ⟨cbb0, cbb1, cbb2, fbb0, fbb1, fbb2⟩ := bb.c3
        have lbb := bb.lt
        obtain ⟨cbc0, cbc1, cbc2, fbc0, fbc1, fbc2⟩ := bc.c3
        have lbc := bc.lt
        go_wp2_with fail
        go_region_held3 (fun W' => W'.cell? ⟨w.heap.size, 0, none⟩ = some (.int .i64 a.1) ∧ W'.cell? ⟨w.heap.size, 1, none⟩ = some (.int .i64 a.2.1) ∧ W'.cell? ⟨w.heap.size, 2, none⟩ = some (.string a.2.2) ∧ W'.cell? ⟨w.heap.size + 1, 0, none⟩ = some (.int .i64 b.1) ∧ W'.cell? ⟨w.heap.size + 1, 1, none⟩ = some (.int .i64 b.2.1) ∧ W'.cell? ⟨w.heap.size + 1, 2, none⟩ = some (.string b.2.2) ∧ W'.cell? ⟨w.heap.size + 1 + 1, 0, none⟩ = some (.int .i64 c.1) ∧ W'.cell? ⟨w.heap.size + 1 + 1, 1, none⟩ = some (.int .i64 c.2.1) ∧ W'.cell? ⟨w.heap.size + 1 + 1, 2, none⟩ = some (.string c.2.2))
          (first | exact ⟨cba0, cba1, cba2, cbb0, cbb1, cbb2, cbc0, cbc1, cbc2⟩ | go_keep)
          (first
            | (go_at_call 20; (with_reducible refine (HE1.out _).mono ?_); rintro e m1 ⟨rfl, hm1⟩
               have hwm1 : Below w.heap.size w m1 := by first | exact chain hW8.drew hm1 | exact chain hwm1 hm1 | exact chain hwm2 hm1
               replace hs : Seen m1 (.slice ad l.length cap) l.length 3 (valCells l) := by first | exact hs.later hm1 (Nat.le_refl _) | exact (seen_drew hs).later hm1 (Nat.le_refl _)
               clear cba0 cba1 cba2 fba0 fba1 fba2 lba cbb0 cbb1 cbb2 fbb0 fbb1 fbb2 lbb cbc0 cbc1 cbc2 fbc0 fbc1 fbc2 lbc
               replace ba := bx_later hm1 ba
               obtain ⟨cba0, cba1, cba2, fba0, fba1, fba2⟩ := ba.c3
               have lba := ba.lt
               replace bb := bx_later hm1 bb
               obtain ⟨cbb0, cbb1, cbb2, fbb0, fbb1, fbb2⟩ := bb.c3
               have lbb := bb.lt
               replace bc := bx_later hm1 bc
               obtain ⟨cbc0, cbc1, cbc2, fbc0, fbc1, fbc2⟩ := bc.c3
               have lbc := bc.lt)
            | (go_at_call 21; (with_reducible refine (HE2.out _).mono ?_); rintro e m2 ⟨rfl, hm2⟩
               have hwm2 : Below w.heap.size w m2 := by first | exact chain hW8.drew hm2 | exact chain hwm1 hm2 | exact chain hwm2 hm2
               replace hs : Seen m2 (.slice ad l.length cap) l.length 3 (valCells l) := by first | exact hs.later hm2 (Nat.le_refl _) | exact (seen_drew hs).later hm2 (Nat.le_refl _)
               clear cba0 cba1 cba2 fba0 fba1 fba2 lba cbb0 cbb1 cbb2 fbb0 fbb1 fbb2 lbb cbc0 cbc1 cbc2 fbc0 fbc1 fbc2 lbc
               replace ba := bx_later hm2 ba
               obtain ⟨cba0, cba1, cba2, fba0, fba1, fba2⟩ := ba.c3
               have lba := ba.lt
               replace bb := bx_later hm2 bb
               obtain ⟨cbb0, cbb1, cbb2, fbb0, fbb1, fbb2⟩ := bb.c3
               have lbb := bb.lt
               replace bc := bx_later hm2 bc
               obtain ⟨cbc0, cbc1, cbc2, fbc0, fbc1, fbc2⟩ := bc.c3
               have lbc := bc.lt))
        · go_wp2_with fail
          refine (HE4.out _).mono ?_
          rintro e w9 ⟨rfl, hb9⟩
          clear cba0 cba1 cba2 fba0 fba1 fba2 lba cbb0 cbb1 cbb2 fbb0 fbb1 fbb2 lbb cbc0 cbc1 cbc2 fbc0 fbc1 fbc2 lbc
          have hW9 := chain hwm2 hb9
          replace hs := hs.later hb9 (Nat.le_refl _)
          replace ba := ba.later hb9
          replace bb := bb.later hb9
          replace bc := bc.later hb9
          obtain ⟨cba0, cba1, cba2, fba0, fba1, fba2⟩ := ba.c3
          have lba := ba.lt
          obtain ⟨cbb0, cbb1, cbb2, fbb0, fbb1, fbb2⟩ := bb.c3
          have lbb := bb.lt
          obtain ⟨cbc0, cbc1, cbc2, fbc0, fbc1, fbc2⟩ := bc.c3
          have lbc := bc.lt
          go_wp2_with fail
          refine (begun_any _).mono ?_
          rintro e w10 ⟨rfl, hb10⟩
          clear cba0 cba1 cba2 fba0 fba1 fba2 lba cbb0 cbb1 cbb2 fbb0 fbb1 fbb2 lbb cbc0 cbc1 cbc2 fbc0 fbc1 fbc2 lbc
          have hW10 := chain hW9 hb10
          replace hs := hs.later hb10 (Nat.le_refl _)
          replace ba := ba.later hb10
          replace bb := bb.later hb10
          replace bc := bc.later hb10
          obtain ⟨cba0, cba1, cba2, fba0, fba1, fba2⟩ := ba.c3
          have lba := ba.lt
          obtain ⟨cbb0, cbb1, cbb2, fbb0, fbb1, fbb2⟩ := bb.c3
          have lbb := bb.lt
          obtain ⟨cbc0, cbc1, cbc2, fbc0, fbc1, fbc2⟩ := bc.c3
          have lbc := bc.lt
          go_wp2_with fail
          go_ret
          exact ⟨by first | rfl | simp, hW10⟩
      · go_wp2_with fail
        refine (HD3.out _ _ hs).mono ?_
        rintro e w7 ⟨rfl, hb7⟩
        clear cba0 cba1 cba2 fba0 fba1 fba2 lba cbb0 cbb1 cbb2 fbb0 fbb1 fbb2 lbb cbc0 cbc1 cbc2 fbc0 fbc1 fbc2 lbc
        have hW7 := chain hW6 hb7
        replace hs := hs.later hb7 (Nat.le_refl _)
        replace ba := ba.later hb7
        replace bb := bb.later hb7
        replace bc := bc.later hb7
        obtain ⟨cba0, cba1, cba2, fba0, fba1, fba2⟩ := ba.c3
        have lba := ba.lt
        obtain ⟨cbb0, cbb1, cbb2, fbb0, fbb1, fbb2⟩ := bb.c3
        have lbb := bb.lt
        obtain ⟨cbc0, cbc1, cbc2, fbc0, fbc1, fbc2⟩ := bc.c3
        have lbc := bc.lt
        go_wp2_with fail
        refine (HD4.out _ _ (seen_vals w7 [a, b, c] _ 3 rfl rfl (by decide))).mono ?_
        rintro e w8 ⟨rfl, hb8⟩
        clear cba0 cba1 cba2 fba0 fba1 fba2 lba cbb0 cbb1 cbb2 fbb0 fbb1 fbb2 lbb cbc0 cbc1 cbc2 fbc0 fbc1 fbc2 lbc
        have hW8 := chain (chain hW7 (alloc_below _ _)) hb8
        replace hs := hs.later (chain (alloc_below _ _) hb8) (Nat.le_refl _)
        replace ba := (ba.alloc _).later hb8
        replace bb := (bb.alloc _).later hb8
        replace bc := (bc.alloc _).later hb8
        obtain ⟨cba0, cba1, cba2, fba0, fba1, fba2⟩ := ba.c3
        have lba := ba.lt
        obtain ⟨cbb0, cbb1, cbb2, fbb0, fbb1, fbb2⟩ := bb.c3
        have lbb := bb.lt
        obtain ⟨cbc0, cbc1, cbc2, fbc0, fbc1, fbc2⟩ := bc.c3
        have lbc := bc.lt
        go_wp2_with fail
        go_region_held3 (fun W' => W'.cell? ⟨w.heap.size, 0, none⟩ = some (.int .i64 a.1) ∧ W'.cell? ⟨w.heap.size, 1, none⟩ = some (.int .i64 a.2.1) ∧ W'.cell? ⟨w.heap.size, 2, none⟩ = some (.string a.2.2) ∧ W'.cell? ⟨w.heap.size + 1, 0, none⟩ = some (.int .i64 b.1) ∧ W'.cell? ⟨w.heap.size + 1, 1, none⟩ = some (.int .i64 b.2.1) ∧ W'.cell? ⟨w.heap.size + 1, 2, none⟩ = some (.string b.2.2) ∧ W'.cell? ⟨w.heap.size + 1 + 1, 0, none⟩ = some (.int .i64 c.1) ∧ W'.cell? ⟨w.heap.size + 1 + 1, 1, none⟩ = some (.int .i64 c.2.1) ∧ W'.cell? ⟨w.heap.size + 1 + 1, 2, none⟩ = some (.string c.2.2))
          (first | exact ⟨cba0, cba1, cba2, cbb0, cbb1, cbb2, cbc0, cbc1, cbc2⟩ | go_keep)
          (first
            | (go_at_call 20; (with_reducible refine (HE1.out _).mono ?_); rintro e m1 ⟨rfl, hm1⟩
               have hwm1 : Below w.heap.size w m1 := by first | exact chain hW8.drew hm1 | exact chain hwm1 hm1 | exact chain hwm2 hm1
               replace hs : Seen m1 (.slice ad l.length cap) l.length 3 (valCells l) := by first | exact hs.later hm1 (Nat.le_refl _) | exact (seen_drew hs).later hm1 (Nat.le_refl _)
               clear cba0 cba1 cba2 fba0 fba1 fba2 lba cbb0 cbb1 cbb2 fbb0 fbb1 fbb2 lbb cbc0 cbc1 cbc2 fbc0 fbc1 fbc2 lbc
               replace ba := bx_later hm1 ba
               obtain ⟨cba0, cba1, cba2, fba0, fba1, fba2⟩ := ba.c3
               have lba := ba.lt
               replace bb := bx_later hm1 bb
               obtain ⟨cbb0, cbb1, cbb2, fbb0, fbb1, fbb2⟩ := bb.c3
               have lbb := bb.lt
               replace bc := bx_later hm1 bc
               obtain ⟨cbc0, cbc1, cbc2, fbc0, fbc1, fbc2⟩ := bc.c3
               have lbc := bc.lt)
            | (go_at_call 21; (with_reducible refine (HE2.out _).mono ?_); rintro e m2 ⟨rfl, hm2⟩
               have hwm2 : Below w.heap.size w m2 := by first | exact chain hW8.drew hm2 | exact chain hwm1 hm2 | exact chain hwm2 hm2
               replace hs : Seen m2 (.slice ad l.length cap) l.length 3 (valCells l) := by first | exact hs.later hm2 (Nat.le_refl _) | exact (seen_drew hs).later hm2 (Nat.le_refl _)
               clear cba0 cba1 cba2 fba0 fba1 fba2 lba cbb0 cbb1 cbb2 fbb0 fbb1 fbb2 lbb cbc0 cbc1 cbc2 fbc0 fbc1 fbc2 lbc
               replace ba := bx_later hm2 ba
               obtain ⟨cba0, cba1, cba2, fba0, fba1, fba2⟩ := ba.c3
               have lba := ba.lt
               replace bb := bx_later hm2 bb
               obtain ⟨cbb0, cbb1, cbb2, fbb0, fbb1, fbb2⟩ := bb.c3
               have lbb := bb.lt
               replace bc := bx_later hm2 bc
               obtain ⟨cbc0, cbc1, cbc2, fbc0, fbc1, fbc2⟩ := bc.c3
               have lbc := bc.lt))
        · go_wp2_with fail
          refine (HE3.out _ _ (by assumption) hs).mono ?_
          rintro e w9 ⟨rfl, hb9⟩
          clear cba0 cba1 cba2 fba0 fba1 fba2 lba cbb0 cbb1 cbb2 fbb0 fbb1 fbb2 lbb cbc0 cbc1 cbc2 fbc0 fbc1 fbc2 lbc
          have hW9 := chain hwm2 hb9
          replace hs := hs.later hb9 (Nat.le_refl _)
          replace ba := ba.later hb9
          replace bb := bb.later hb9
          replace bc := bc.later hb9
          obtain ⟨cba0, cba1, cba2, fba0, fba1, fba2⟩ := ba.c3
          have lba := ba.lt
          obtain ⟨cbb0, cbb1, cbb2, fbb0, fbb1, fbb2⟩ := bb.c3
          have lbb := bb.lt
          obtain ⟨cbc0, cbc1, cbc2, fbc0, fbc1, fbc2⟩ := bc.c3
          have lbc := bc.lt
          go_wp2_with fail
          refine (HE4.out _).mono ?_
          rintro e w10 ⟨rfl, hb10⟩
          clear cba0 cba1 cba2 fba0 fba1 fba2 lba cbb0 cbb1 cbb2 fbb0 fbb1 fbb2 lbb cbc0 cbc1 cbc2 fbc0 fbc1 fbc2 lbc
          have hW10 := chain hW9 hb10
          replace hs := hs.later hb10 (Nat.le_refl _)
          replace ba := ba.later hb10
          replace bb := bb.later hb10
          replace bc := bc.later hb10
          obtain ⟨cba0, cba1, cba2, fba0, fba1, fba2⟩ := ba.c3
          have lba := ba.lt
          obtain ⟨cbb0, cbb1, cbb2, fbb0, fbb1, fbb2⟩ := bb.c3
          have lbb := bb.lt
          obtain ⟨cbc0, cbc1, cbc2, fbc0, fbc1, fbc2⟩ := bc.c3
          have lbc := bc.lt
          go_wp2_with fail
          refine (begun_any _).mono ?_
          rintro e w11 ⟨rfl, hb11⟩
          clear cba0 cba1 cba2 fba0 fba1 fba2 lba cbb0 cbb1 cbb2 fbb0 fbb1 fbb2 lbb cbc0 cbc1 cbc2 fbc0 fbc1 fbc2 lbc
          have hW11 := chain hW10 hb11
          replace hs := hs.later hb11 (Nat.le_refl _)
          replace ba := ba.later hb11
          replace bb := bb.later hb11
          replace bc := bc.later hb11
          obtain ⟨cba0, cba1, cba2, fba0, fba1, fba2⟩ := ba.c3
          have lba := ba.lt
          obtain ⟨cbb0, cbb1, cbb2, fbb0, fbb1, fbb2⟩ := bb.c3
          have lbb := bb.lt
          obtain ⟨cbc0, cbc1, cbc2, fbc0, fbc1, fbc2⟩ := bc.c3
          have lbc := bc.lt
          go_wp2_with fail
          go_ret
          exact ⟨by first | rfl | simp, hW11⟩
      · go_wp2_with fail
        refine (HD3.out _ _ hs).mono ?_
        rintro e w7 ⟨rfl, hb7⟩
        clear cba0 cba1 cba2 fba0 fba1 fba2 lba cbb0 cbb1 cbb2 fbb0 fbb1 fbb2 lbb cbc0 cbc1 cbc2 fbc0 fbc1 fbc2 lbc
        have hW7 := chain hW6 hb7
        replace hs := hs.later hb7 (Nat.le_refl _)
        replace ba := ba.later hb7
        replace bb := bb.later hb7
        replace bc := bc.later hb7
        obtain ⟨cba0, cba1, cba2, fba0, fba1, fba2⟩ := ba.c3
        have lba := ba.lt
        obtain ⟨cbb0, cbb1, cbb2, fbb0, fbb1, fbb2⟩ := bb.c3
        have lbb := bb.lt
        obtain ⟨cbc0, cbc1, cbc2, fbc0, fbc1, fbc2⟩ := bc.c3
        have lbc := bc.lt
        go_wp2_with fail
        refine (HD4.out _ _ (seen_vals w7 [a, b, c] _ 3 rfl rfl (by decide))).mono ?_
        rintro e w8 ⟨rfl, hb8⟩
        clear cba0 cba1 cba2 fba0 fba1 fba2 lba cbb0 cbb1 cbb2 fbb0 fbb1 fbb2 lbb cbc0 cbc1 cbc2 fbc0 fbc1 fbc2 lbc
        have hW8 := chain (chain hW7 (alloc_below _ _)) hb8
        replace hs := hs.later (chain (alloc_below _ _) hb8) (Nat.le_refl _)
        replace ba := (ba.alloc _).later hb8
        replace bb := (bb.alloc _).later hb8
        replace bc := (bc.alloc _).later hb8
        obtain ⟨cba0, cba1, cba2, fba0, fba1, fba2⟩ := ba.c3
        have lba := ba.lt
        obtain ⟨cbb0, cbb1, cbb2, fbb0, fbb1, fbb2⟩ := bb.c3
        have lbb := bb.lt
        obtain ⟨cbc0, cbc1, cbc2, fbc0, fbc1, fbc2⟩ := bc.c3
        have lbc := bc.lt
        go_wp2_with fail
        go_region_held3 (fun W' => W'.cell? ⟨w.heap.size, 0, none⟩ = some (.int .i64 a.1) ∧ W'.cell? ⟨w.heap.size, 1, none⟩ = some (.int .i64 a.2.1) ∧ W'.cell? ⟨w.heap.size, 2, none⟩ = some (.string a.2.2) ∧ W'.cell? ⟨w.heap.size + 1, 0, none⟩ = some (.int .i64 b.1) ∧ W'.cell? ⟨w.heap.size + 1, 1, none⟩ = some (.int .i64 b.2.1) ∧ W'.cell? ⟨w.heap.size + 1, 2, none⟩ = some (.string b.2.2) ∧ W'.cell? ⟨w.heap.size + 1 + 1, 0, none⟩ = some (.int .i64 c.1) ∧ W'.cell? ⟨w.heap.size + 1 + 1, 1, none⟩ = some (.int .i64 c.2.1) ∧ W'.cell? ⟨w.heap.size + 1 + 1, 2, none⟩ = some (.string c.2.2))
          (first | exact ⟨cba0, cba1, cba2, cbb0, cbb1, cbb2, cbc0, cbc1, cbc2⟩ | go_keep)
          (first
            | (go_at_call 20; (with_reducible refine (HE1.out _).mono ?_); rintro e m1 ⟨rfl, hm1⟩
               have hwm1 : Below w.heap.size w m1 := by first | exact chain hW8.drew hm1 | exact chain hwm1 hm1 | exact chain hwm2 hm1
               replace hs : Seen m1 (.slice ad l.length cap) l.length 3 (valCells l) := by first | exact hs.later hm1 (Nat.le_refl _) | exact (seen_drew hs).later hm1 (Nat.le_refl _)
               clear cba0 cba1 cba2 fba0 fba1 fba2 lba cbb0 cbb1 cbb2 fbb0 fbb1 fbb2 lbb cbc0 cbc1 cbc2 fbc0 fbc1 fbc2 lbc
               replace ba := bx_later hm1 ba
               obtain ⟨cba0, cba1, cba2, fba0, fba1, fba2⟩ := ba.c3
               have lba := ba.lt
               replace bb := bx_later hm1 bb
               obtain ⟨cbb0, cbb1, cbb2, fbb0, fbb1, fbb2⟩ := bb.c3
               have lbb := bb.lt
               replace bc := bx_later hm1 bc
               obtain ⟨cbc0, cbc1, cbc2, fbc0, fbc1, fbc2⟩ := bc.c3
               have lbc := bc.lt)
            | (go_at_call 21; (with_reducible refine (HE2.out _).mono ?_); rintro e m2 ⟨rfl, hm2⟩
               have hwm2 : Below w.heap.size w m2 := by first | exact chain hW8.drew hm2 | exact chain hwm1 hm2 | exact chain hwm2 hm2
               replace hs : Seen m2 (.slice ad l.length cap) l.length 3 (valCells l) := by first | exact hs.later hm2 (Nat.le_refl _) | exact (seen_drew hs).later hm2 (Nat.le_refl _)
               clear cba0 cba1 cba2 fba0 fba1 fba2 lba cbb0 cbb1 cbb2 fbb0 fbb1 fbb2 lbb cbc0 cbc1 cbc2 fbc0 fbc1 fbc2 lbc
               replace ba := bx_later hm2 ba
               obtain ⟨cba0, cba1, cba2, fba0, fba1, fba2⟩ := ba.c3
               have lba := ba.lt
               replace bb := bx_later hm2 bb
               obtain ⟨cbb0, cbb1, cbb2, fbb0, fbb1, fbb2⟩ := bb.c3
               have lbb := bb.lt
               replace bc := bx_later hm2 bc
               obtain ⟨cbc0, cbc1, cbc2, fbc0, fbc1, fbc2⟩ := bc.c3
               have lbc := bc.lt))
        · go_wp2_with fail
          refine (HE4.out _).mono ?_
          rintro e w9 ⟨rfl, hb9⟩
          clear cba0 cba1 cba2 fba0 fba1 fba2 lba cbb0 cbb1 cbb2 fbb0 fbb1 fbb2 lbb cbc0 cbc1 cbc2 fbc0 fbc1 fbc2 lbc
          have hW9 := chain hwm2 hb9
          replace hs := hs.later hb9 (Nat.le_refl _)
          replace ba := ba.later hb9
          replace bb := bb.later hb9
          replace bc := bc.later hb9
          obtain ⟨cba0, cba1, cba2, fba0, fba1, fba2⟩ := ba.c3
          have lba := ba.lt
          obtain ⟨cbb0, cbb1, cbb2, fbb0, fbb1, fbb2⟩ := bb.c3
          have lbb := bb.lt
          obtain ⟨cbc0, cbc1, cbc2, fbc0, fbc1, fbc2⟩ := bc.c3
          have lbc := bc.lt
          go_wp2_with fail
          refine (begun_any _).mono ?_
          rintro e w10 ⟨rfl, hb10⟩
          clear cba0 cba1 cba2 fba0 fba1 fba2 lba cbb0 cbb1 cbb2 fbb0 fbb1 fbb2 lbb cbc0 cbc1 cbc2 fbc0 fbc1 fbc2 lbc
          have hW10 := chain hW9 hb10
          replace hs := hs.later hb10 (Nat.le_refl _)
          replace ba := ba.later hb10
          replace bb := bb.later hb10
          replace bc := bc.later hb10
          obtain ⟨cba0, cba1, cba2, fba0, fba1, fba2⟩ := ba.c3
          have lba := ba.lt
          obtain ⟨cbb0, cbb1, cbb2, fbb0, fbb1, fbb2⟩ := bb.c3
          have lbb := bb.lt
          obtain ⟨cbc0, cbc1, cbc2, fbc0, fbc1, fbc2⟩ := bc.c3
          have lbc := bc.lt
          go_wp2_with fail
          go_ret
          exact ⟨by first | rfl | simp, hW10⟩
    · rcases hl with ⟨hl, rfl, rfl⟩ | ⟨hl, rfl, rfl, rfl⟩ | ⟨hl, hvv, rfl, rfl⟩
      · go_wp2_with fail
        refine (HD3.out _ _ hs).mono ?_
        rintro e w7 ⟨rfl, hb7⟩
        clear cba0 cba1 cba2 fba0 fba1 fba2 lba cbb0 cbb1 cbb2 fbb0 fbb1 fbb2 lbb cbc0 cbc1 cbc2 fbc0 fbc1 fbc2 lbc
        have hW7 := chain hW6 hb7
        replace hs := hs.later hb7 (Nat.le_refl _)
        replace ba := ba.later hb7
        replace bb := bb.later hb7
        replace bc := bc.later hb7
        obtain ⟨cba0, cba1, cba2, fba0, fba1, fba2⟩ := ba.c3
        have lba := ba.lt
        obtain ⟨cbb0, cbb1, cbb2, fbb0, fbb1, fbb2⟩ := bb.c3
        have lbb := bb.lt
        obtain ⟨cbc0, cbc1, cbc2, fbc0, fbc1, fbc2⟩ := bc.c3
        have lbc := bc.lt
        go_wp2_with fail
        refine (HD4.out _ _ (seen_vals w7 [a, b, c] _ 3 rfl rfl (by decide))).mono ?_
        rintro e w8 ⟨rfl, hb8⟩
        clear cba0 cba1 cba2 fba0 fba1 fba2 lba cbb0 cbb1 cbb2 fbb0 fbb1 fbb2 lbb cbc0 cbc1 cbc2 fbc0 fbc1 fbc2 lbc
        have hW8 := chain (chain hW7 (alloc_below _ _)) hb8
        replace hs := hs.later (chain (alloc_below _ _) hb8) (Nat.le_refl _)
        replace ba := (ba.alloc _).later hb8
        replace bb := (bb.alloc _).later hb8
        replace bc := (bc.alloc _).later hb8
        obtain ⟨cba0, cba1, cba2, fba0, fba1, fba2⟩ := ba.c3
        have lba := ba.lt
        obtain ⟨cbb0, cbb1, cbb2, fbb0, fbb1, fbb2⟩ := bb.c3
        have lbb := bb.lt
        obtain ⟨cbc0, cbc1, cbc2, fbc0, fbc1, fbc2⟩ := bc.c3
        have lbc := bc.lt
        go_wp2_with fail
        go_region_held3 (fun W' => W'.cell? ⟨w.heap.size, 0, none⟩ = some (.int .i64 a.1) ∧ W'.cell? ⟨w.heap.size, 1, none⟩ = some (.int .i64 a.2.1) ∧ W'.cell? ⟨w.heap.size, 2, none⟩ = some (.string a.2.2) ∧ W'.cell? ⟨w.heap.size + 1, 0, none⟩ = some (.int .i64 b.1) ∧ W'.cell? ⟨w.heap.size + 1, 1, none⟩ = some (.int .i64 b.2.1) ∧ W'.cell? ⟨w.heap.size + 1, 2, none⟩ = some (.string b.2.2) ∧ W'.cell? ⟨w.heap.size + 1 + 1, 0, none⟩ = some (.int .i64 c.1) ∧ W'.cell? ⟨w.heap.size + 1 + 1, 1, none⟩ = some (.int .i64 c.2.1) ∧ W'.cell? ⟨w.heap.size + 1 + 1, 2, none⟩ = some (.string c.2.2))
          (first | exact ⟨cba0, cba1, cba2, cbb0, cbb1, cbb2, cbc0, cbc1, cbc2⟩ | go_keep)
          (first
            | (go_at_call 20; (with_reducible refine (HE1.out _).mono ?_); rintro e m1 ⟨rfl, hm1⟩
               have hwm1 : Below w.heap.size w m1 := by first | exact chain hW8.drew hm1 | exact chain hwm1 hm1 | exact chain hwm2 hm1
               replace hs : Seen m1 (.slice ad l.length cap) l.length 3 (valCells l) := by first | exact hs.later hm1 (Nat.le_refl _) | exact (seen_drew hs).later hm1 (Nat.le_refl _)
               clear cba0 cba1 cba2 fba0 fba1 fba2 lba cbb0 cbb1 cbb2 fbb0 fbb1 fbb2 lbb cbc0 cbc1 cbc2 fbc0 fbc1 fbc2 lbc
               replace ba := bx_later hm1 ba
               obtain ⟨cba0, cba1, cba2, fba0, fba1, fba2⟩ := ba.c3
               have lba := ba.lt
               replace bb := bx_later hm1 bb
               obtain ⟨cbb0, cbb1, cbb2, fbb0, fbb1, fbb2⟩ := bb.c3
               have lbb := bb.lt
               replace bc := bx_later hm1 bc
               obtain ⟨cbc0, cbc1, cbc2, fbc0, fbc1, fbc2⟩ := bc.c3
               have lbc := bc.lt)
            | (go_at_call 21; (with_reducible refine (HE2.out _).mono ?_); rintro e m2 ⟨rfl, hm2⟩
               have hwm2 : Below w.heap.size w m2 := by first | exact chain hW8.drew hm2 | exact chain hwm1 hm2 | exact chain hwm2 hm2
               replace hs : Seen m2 (.slice ad l.length cap) l.length 3 (valCells l) := by first | exact hs.later hm2 (Nat.le_refl _) | exact (seen_drew hs).later hm2 (Nat.le_refl _)
               clear cba0 cba1 cba2 fba0 fba1 fba2 lba cbb0 cbb1 cbb2 fbb0 fbb1 fbb2 lbb cbc0 cbc1 cbc2 fbc0 fbc1 fbc2 lbc
               replace ba := bx_later hm2 ba
               obtain ⟨cba0, cba1, cba2, fba0, fba1, fba2⟩ := ba.c3
               have lba := ba.lt
               replace bb := bx_later hm2 bb
               obtain ⟨cbb0, cbb1, cbb2, fbb0, fbb1, fbb2⟩ := bb.c3
               have lbb := bb.lt
               replace bc := bx_later hm2 bc
               obtain ⟨cbc0, cbc1, cbc2, fbc0, fbc1, fbc2⟩ := bc.c3
               have lbc := bc.lt))
        · go_wp2_with fail
          refine (begun_any _).mono ?_
          rintro e w9 ⟨rfl, hb9⟩
          clear cba0 cba1 cba2 fba0 fba1 fba2 lba cbb0 cbb1 cbb2 fbb0 fbb1 fbb2 lbb cbc0 cbc1 cbc2 fbc0 fbc1 fbc2 lbc
          have hW9 := chain hwm2 hb9
          replace hs := hs.later hb9 (Nat.le_refl _)
          replace ba := ba.later hb9
          replace bb := bb.later hb9
          replace bc := bc.later hb9
          obtain ⟨cba0, cba1, cba2, fba0, fba1, fba2⟩ := ba.c3
          have lba := ba.lt
          obtain ⟨cbb0, cbb1, cbb2, fbb0, fbb1, fbb2⟩ := bb.c3
          have lbb := bb.lt
          obtain ⟨cbc0, cbc1, cbc2, fbc0, fbc1, fbc2⟩ := bc.c3
          have lbc := bc.lt
          go_wp2_with fail
          go_ret
          exact ⟨by first | rfl | simp, hW9⟩
      · go_wp2_with fail
        refine (HD3.out _ _ hs).mono ?_
        rintro e w7 ⟨rfl, hb7⟩
        clear cba0 cba1 cba2 fba0 fba1 fba2 lba cbb0 cbb1 cbb2 fbb0 fbb1 fbb2 lbb cbc0 cbc1 cbc2 fbc0 fbc1 fbc2 lbc
        have hW7 := chain hW6 hb7
        replace hs := hs.later hb7 (Nat.le_refl _)
        replace ba := ba.later hb7
        replace bb := bb.later hb7
        replace bc := bc.later hb7
        obtain ⟨cba0, cba1, cba2, fba0, fba1, fba2⟩ := ba.c3
        have lba := ba.lt
        obtain ⟨cbb0, cbb1, cbb2, fbb0, fbb1, fbb2⟩ := bb.c3
        have lbb := bb.lt
        obtain ⟨cbc0, cbc1, cbc2, fbc0, fbc1, fbc2⟩ := bc.c3
        have lbc := bc.lt
        go_wp2_with fail
        refine (HD4.out _ _ (seen_vals w7 [a, b, c] _ 3 rfl rfl (by decide))).mono ?_
        rintro e w8 ⟨rfl, hb8⟩
        clear cba0 cba1 cba2 fba0 fba1 fba2 lba cbb0 cbb1 cbb2 fbb0 fbb1 fbb2 lbb cbc0 cbc1 cbc2 fbc0 fbc1 fbc2 lbc
        have hW8 := chain (chain hW7 (alloc_below _ _)) hb8
        replace hs := hs.later (chain (alloc_below _ _) hb8) (Nat.le_refl _)
        replace ba := (ba.alloc _).later hb8
        replace bb := (bb.alloc _).later hb8
        replace bc := (bc.alloc _).later hb8
        obtain ⟨cba0, cba1, cba2, fba0, fba1, fba2⟩ := ba.c3
        have lba := ba.lt
        obtain ⟨cbb0, cbb1, cbb2, fbb0, fbb1, fbb2⟩ := bb.c3
        have lbb := bb.lt
        obtain ⟨cbc0, cbc1, cbc2, fbc0, fbc1, fbc2⟩ := bc.c3
        have lbc := bc.lt
        go_wp2_with fail
        go_region_held3 (fun W' => W'.cell? ⟨w.heap.size, 0, none⟩ = some (.int .i64 a.1) ∧ W'.cell? ⟨w.heap.size, 1, none⟩ = some (.int .i64 a.2.1) ∧ W'.cell? ⟨w.heap.size, 2, none⟩ = some (.string a.2.2) ∧ W'.cell? ⟨w.heap.size + 1, 0, none⟩ = some (.int .i64 b.1) ∧ W'.cell? ⟨w.heap.size + 1, 1, none⟩ = some (.int .i64 b.2.1) ∧ W'.cell? ⟨w.heap.size + 1, 2, none⟩ = some (.string b.2.2) ∧ W'.cell? ⟨w.heap.size + 1 + 1, 0, none⟩ = some (.int .i64 c.1) ∧ W'.cell? ⟨w.heap.size + 1 + 1, 1, none⟩ = some (.int .i64 c.2.1) ∧ W'.cell? ⟨w.heap.size + 1 + 1, 2, none⟩ = some (.string c.2.2))
          (first | exact ⟨cba0, cba1, cba2, cbb0, cbb1, cbb2, cbc0, cbc1, cbc2⟩ | go_keep)
          (first
            | (go_at_call 20; (with_reducible refine (HE1.out _).mono ?_); rintro e m1 ⟨rfl, hm1⟩
               have hwm1 : Below w.heap.size w m1 := by first | exact chain hW8.drew hm1 | exact chain hwm1 hm1 | exact chain hwm2 hm1
               replace hs : Seen m1 (.slice ad l.length cap) l.length 3 (valCells l) := by first | exact hs.later hm1 (Nat.le_refl _) | exact (seen_drew hs).later hm1 (Nat.le_refl _)
               clear cba0 cba1 cba2 fba0 fba1 fba2 lba cbb0 cbb1 cbb2 fbb0 fbb1 fbb2 lbb cbc0 cbc1 cbc2 fbc0 fbc1 fbc2 lbc
               replace ba := bx_later hm1 ba
               obtain ⟨cba0, cba1, cba2, fba0, fba1, fba2⟩ := ba.c3
               have lba := ba.lt
               replace bb := bx_later hm1 bb
               obtain ⟨cbb0, cbb1, cbb2, fbb0, fbb1, fbb2⟩ := bb.c3
               have lbb := bb.lt
               replace bc := bx_later hm1 bc
               obtain ⟨cbc0, cbc1, cbc2, fbc0, fbc1, fbc2⟩ := bc.c3
               have lbc := bc.lt)
            | (go_at_call 21; (with_reducible refine (HE2.out _).mono ?_); rintro e m2 ⟨rfl, hm2⟩
               have hwm2 : Below w.heap.size w m2 := by first | exact chain hW8.drew hm2 | exact chain hwm1 hm2 | exact chain hwm2 hm2
               replace hs : Seen m2 (.slice ad l.length cap) l.length 3 (valCells l) := by first | exact hs.later hm2 (Nat.le_refl _) | exact (seen_drew hs).later hm2 (Nat.le_refl _)
               clear cba0 cba1 cba2 fba0 fba1 fba2 lba cbb0 cbb1 cbb2 fbb0 fbb1 fbb2 lbb cbc0 cbc1 cbc2 fbc0 fbc1 fbc2 lbc
               replace ba := bx_later hm2 ba
               obtain ⟨cba0, cba1, cba2, fba0, fba1, fba2⟩ := ba.c3
               have lba := ba.lt
               replace bb := bx_later hm2 bb
               obtain ⟨cbb0, cbb1, cbb2, fbb0, fbb1, fbb2⟩ := bb.c3
               have lbb := bb.lt
               replace bc := bx_later hm2 bc
               obtain ⟨cbc0, cbc1, cbc2, fbc0, fbc1, fbc2⟩ := bc.c3
               have lbc := bc.lt))
        · go_wp2_with fail
          refine (HE3.out _ _ (by assumption) hs).mono ?_
          rintro e w9 ⟨rfl, hb9⟩
          clear cba0 cba1 cba2 fba0 fba1 fba2 lba cbb0 cbb1 cbb2 fbb0 fbb1 fbb2 lbb cbc0 cbc1 cbc2 fbc0 fbc1 fbc2 lbc
          have hW9 := chain hwm2 hb9
          replace hs := hs.later hb9 (Nat.le_refl _)
          replace ba := ba.later hb9
          replace bb := bb.later hb9
          replace bc := bc.later hb9
          obtain ⟨cba0, cba1, cba2, fba0, fba1, fba2⟩ := ba.c3
          have lba := ba.lt
          obtain ⟨cbb0, cbb1, cbb2, fbb0, fbb1, fbb2⟩ := bb.c3
          have lbb := bb.lt
          obtain ⟨cbc0, cbc1, cbc2, fbc0, fbc1, fbc2⟩ := bc.c3
          have lbc := bc.lt
          go_wp2_with fail
          refine (begun_any _).mono ?_
          rintro e w10 ⟨rfl, hb10⟩
          clear cba0 cba1 cba2 fba0 fba1 fba2 lba cbb0 cbb1 cbb2 fbb0 fbb1 fbb2 lbb cbc0 cbc1 cbc2 fbc0 fbc1 fbc2 lbc
          have hW10 := chain hW9 hb10
          replace hs := hs.later hb10 (Nat.le_refl _)
          replace ba := ba.later hb10
          replace bb := bb.later hb10
          replace bc := bc.later hb10
          obtain ⟨cba0, cba1, cba2, fba0, fba1, fba2⟩ := ba.c3
          have lba := ba.lt
          obtain ⟨cbb0, cbb1, cbb2, fbb0, fbb1, fbb2⟩ := bb.c3
          have lbb := bb.lt
          obtain ⟨cbc0, cbc1, cbc2, fbc0, fbc1, fbc2⟩ := bc.c3
          have lbc := bc.lt
          go_wp2_with fail
          go_ret
          exact ⟨by first | rfl | simp, hW10⟩
      · go_wp2_with fail
        refine (HD3.out _ _ hs).mono ?_
        rintro e w7 ⟨rfl, hb7⟩
        clear cba0 cba1 cba2 fba0 fba1 fba2 lba cbb0 cbb1 cbb2 fbb0 fbb1 fbb2 lbb cbc0 cbc1 cbc2 fbc0 fbc1 fbc2 lbc
        have hW7 := chain hW6 hb7
        replace hs := hs.later hb7 (Nat.le_refl _)
        replace ba := ba.later hb7
        replace bb := bb.later hb7
        replace bc := bc.later hb7
        obtain ⟨cba0, cba1, cba2, fba0, fba1, fba2⟩ := ba.c3
        have lba := ba.lt
        obtain ⟨cbb0, cbb1, cbb2, fbb0, fbb1, fbb2⟩ := bb.c3
        have lbb := bb.lt
        obtain ⟨cbc0, cbc1, cbc2, fbc0, fbc1, fbc2⟩ := bc.c3
        have lbc := bc.lt
        go_wp2_with fail
        refine (HD4.out _ _ (seen_vals w7 [a, b, c] _ 3 rfl rfl (by decide))).mono ?_
        rintro e w8 ⟨rfl, hb8⟩
        clear cba0 cba1 cba2 fba0 fba1 fba2 lba cbb0 cbb1 cbb2 fbb0 fbb1 fbb2 lbb cbc0 cbc1 cbc2 fbc0 fbc1 fbc2 lbc
        have hW8 := chain (chain hW7 (alloc_below _ _)) hb8
        replace hs := hs.later (chain (alloc_below _ _) hb8) (Nat.le_refl _)
        replace ba := (ba.alloc _).later hb8
        replace bb := (bb.alloc _).later hb8
        replace bc := (bc.alloc _).later hb8
        obtain ⟨cba0, cba1, cba2, fba0, fba1, fba2⟩ := ba.c3
        have lba := ba.lt
        obtain ⟨cbb0, cbb1, cbb2, fbb0, fbb1, fbb2⟩ := bb.c3
        have lbb := bb.lt
        obtain ⟨cbc0, cbc1, cbc2, fbc0, fbc1, fbc2⟩ := bc.c3
        have lbc := bc.lt
        go_wp2_with fail
        go_region_held3 (fun W' => W'.cell? ⟨w.heap.size, 0, none⟩ = some (.int .i64 a.1) ∧ W'.cell? ⟨w.heap.size, 1, none⟩ = some (.int .i64 a.2.1) ∧ W'.cell? ⟨w.heap.size, 2, none⟩ = some (.string a.2.2) ∧ W'.cell? ⟨w.heap.size + 1, 0, none⟩ = some (.int .i64 b.1) ∧ W'.cell? ⟨w.heap.size + 1, 1, none⟩ = some (.int .i64 b.2.1) ∧ W'.cell? ⟨w.heap.size + 1, 2, none⟩ = some (.string b.2.2) ∧ W'.cell? ⟨w.heap.size + 1 + 1, 0, none⟩ = some (.int .i64 c.1) ∧ W'.cell? ⟨w.heap.size + 1 + 1, 1, none⟩ = some (.int .i64 c.2.1) ∧ W'.cell? ⟨w.heap.size + 1 + 1, 2, none⟩ = some (.string c.2.2))
          (first | exact ⟨cba0, cba1, cba2, cbb0, cbb1, cbb2, cbc0, cbc1, cbc2⟩ | go_keep)
          (first
            | (go_at_call 20; (with_reducible refine (HE1.out _).mono ?_); rintro e m1 ⟨rfl, hm1⟩
               have hwm1 : Below w.heap.size w m1 := by first | exact chain hW8.drew hm1 | exact chain hwm1 hm1 | exact chain hwm2 hm1
               replace hs : Seen m1 (.slice ad l.length cap) l.length 3 (valCells l) := by first | exact hs.later hm1 (Nat.le_refl _) | exact (seen_drew hs).later hm1 (Nat.le_refl _)
               clear cba0 cba1 cba2 fba0 fba1 fba2 lba cbb0 cbb1 cbb2 fbb0 fbb1 fbb2 lbb cbc0 cbc1 cbc2 fbc0 fbc1 fbc2 lbc
               replace ba := bx_later hm1 ba
               obtain ⟨cba0, cba1, cba2, fba0, fba1, fba2⟩ := ba.c3
               have lba := ba.lt
               replace bb := bx_later hm1 bb
               obtain ⟨cbb0, cbb1, cbb2, fbb0, fbb1, fbb2⟩ := bb.c3
               have lbb := bb.lt
               replace bc := bx_later hm1 bc
               obtain ⟨cbc0, cbc1, cbc2, fbc0, fbc1, fbc2⟩ := bc.c3
               have lbc := bc.lt)
            | (go_at_call 21; (with_reducible refine (HE2.out _).mono ?_); rintro e m2 ⟨rfl, hm2⟩
               have hwm2 : Below w.heap.size w m2 := by first | exact chain hW8.drew hm2 | exact chain hwm1 hm2 | exact chain hwm2 hm2
               replace hs : Seen m2 (.slice ad l.length cap) l.length 3 (valCells l) := by first | exact hs.later hm2 (Nat.le_refl _) | exact (seen_drew hs).later hm2 (Nat.le_refl _)
               clear cba0 cba1 cba2 fba0 fba1 fba2 lba cbb0 cbb1 cbb2 fbb0 fbb1 fbb2 lbb cbc0 cbc1 cbc2 fbc0 fbc1 fbc2 lbc
               replace ba := bx_later hm2 ba
               obtain ⟨cba0, cba1, cba2, fba0, fba1, fba2⟩ := ba.c3
               have lba := ba.lt
               replace bb := bx_later hm2 bb
               obtain ⟨cbb0, cbb1, cbb2, fbb0, fbb1, fbb2⟩ := bb.c3
               have lbb := bb.lt
               replace bc := bx_later hm2 bc
               obtain ⟨cbc0, cbc1, cbc2, fbc0, fbc1, fbc2⟩ := bc.c3
               have lbc := bc.lt))
        · go_wp2_with fail
          refine (begun_any _).mono ?_
          rintro e w9 ⟨rfl, hb9⟩
          clear cba0 cba1 cba2 fba0 fba1 fba2 lba cbb0 cbb1 cbb2 fbb0 fbb1 fbb2 lbb cbc0 cbc1 cbc2 fbc0 fbc1 fbc2 lbc
          have hW9 := chain hwm2 hb9
          replace hs := hs.later hb9 (Nat.le_refl _)
          replace ba := ba.later hb9
          replace bb := bb.later hb9
          replace bc := bc.later hb9
          obtain ⟨cba0, cba1, cba2, fba0, fba1, fba2⟩ := ba.c3
          have lba := ba.lt
          obtain ⟨cbb0, cbb1, cbb2, fbb0, fbb1, fbb2⟩ := bb.c3
          have lbb := bb.lt
          obtain ⟨cbc0, cbc1, cbc2, fbc0, fbc1, fbc2⟩ := bc.c3
          have lbc := bc.lt
          go_wp2_with fail
          go_ret
          exact ⟨by first | rfl | simp, hW9⟩
    · rcases hl with ⟨hl, rfl, rfl⟩ | ⟨hl, rfl, rfl, rfl⟩ | ⟨hl, hvv, rfl, rfl⟩
      · go_wp2_with fail
        refine (HD3.out _ _ hs).mono ?_
        rintro e w7 ⟨rfl, hb7⟩
        clear cba0 cba1 cba2 fba0 fba1 fba2 lba cbb0 cbb1 cbb2 fbb0 fbb1 fbb2 lbb cbc0 cbc1 cbc2 fbc0 fbc1 fbc2 lbc
        have hW7 := chain hW6 hb7
        replace hs := hs.later hb7 (Nat.le_refl _)
        replace ba := ba.later hb7
        replace bb := bb.later hb7
        replace bc := bc.later hb7
        obtain ⟨cba0, cba1, cba2, fba0, fba1, fba2⟩ := ba.c3
        have lba := ba.lt
        obtain ⟨cbb0, cbb1, cbb2, fbb0, fbb1, fbb2⟩ := bb.c3
        have lbb := bb.lt
        obtain ⟨cbc0, cbc1, cbc2, fbc0, fbc1, fbc2⟩ := bc.c3
        have lbc := bc.lt
        go_wp2_with fail
        refine (HD4.out _ _ (seen_vals w7 [a, b, c] _ 3 rfl rfl (by decide))).mono ?_
        rintro e w8 ⟨rfl, hb8⟩
        clear cba0 cba1 cba2 fba0 fba1 fba2 lba cbb0 cbb1 cbb2 fbb0 fbb1 fbb2 lbb cbc0 cbc1 cbc2 fbc0 fbc1 fbc2 lbc
        have hW8 := chain (chain hW7 (alloc_below _ _)) hb8
        replace hs := hs.later (chain (alloc_below _ _) hb8) (Nat.le_refl _)
        replace ba := (ba.alloc _).later hb8
        replace bb := (bb.alloc _).later hb8
        replace bc := (bc.alloc _).later hb8
        obtain ⟨cba0, cba1, cba2, fba0, fba1, fba2⟩ := ba.c3
        have lba := ba.lt
        obtain ⟨cbb0, cbb1, cbb2, fbb0, fbb1, fbb2⟩ := bb.c3
        have lbb := bb.lt
        obtain ⟨cbc0, cbc1, cbc2, fbc0, fbc1, fbc2⟩ := bc.c3
        have lbc := bc.lt
        go_wp2_with fail
        refine (begun_any _).mono ?_
        rintro e w9 ⟨rfl, hb9⟩
        clear cba0 cba1 cba2 fba0 fba1 fba2 lba cbb0 cbb1 cbb2 fbb0 fbb1 fbb2 lbb cbc0 cbc1 cbc2 fbc0 fbc1 fbc2 lbc
        have hW9 := chain hW8 hb9
        replace hs := hs.later hb9 (Nat.le_refl _)
        replace ba := ba.later hb9
        replace bb := bb.later hb9
        replace bc := bc.later hb9
        obtain ⟨cba0, cba1, cba2, fba0, fba1, fba2⟩ := ba.c3
        have lba := ba.lt
        obtain ⟨cbb0, cbb1, cbb2, fbb0, fbb1, fbb2⟩ := bb.c3
        have lbb := bb.lt
        obtain ⟨cbc0, cbc1, cbc2, fbc0, fbc1, fbc2⟩ := bc.c3
        have lbc := bc.lt
        go_wp2_with fail
        go_ret
        exact ⟨by first | rfl | simp, hW9⟩
      · go_wp2_with fail
        refine (HD3.out _ _ hs).mono ?_
        rintro e w7 ⟨rfl, hb7⟩
        clear cba0 cba1 cba2 fba0 fba1 fba2 lba cbb0 cbb1 cbb2 fbb0 fbb1 fbb2 lbb cbc0 cbc1 cbc2 fbc0 fbc1 fbc2 lbc
        have hW7 := chain hW6 hb7
        replace hs := hs.later hb7 (Nat.le_refl _)
        replace ba := ba.later hb7
        replace bb := bb.later hb7
        replace bc := bc.later hb7
        obtain ⟨cba0, cba1, cba2, fba0, fba1, fba2⟩ := ba.c3
        have lba := ba.lt
        obtain ⟨cbb0, cbb1, cbb2, fbb0, fbb1, fbb2⟩ := bb.c3
        have lbb := bb.lt
        obtain ⟨cbc0, cbc1, cbc2, fbc0, fbc1, fbc2⟩ := bc.c3
        have lbc := bc.lt
        go_wp2_with fail
        refine (HD4.out _ _ (seen_vals w7 [a, b, c] _ 3 rfl rfl (by decide))).mono ?_
        rintro e w8 ⟨rfl, hb8⟩
        clear cba0 cba1 cba2 fba0 fba1 fba2 lba cbb0 cbb1 cbb2 fbb0 fbb1 fbb2 lbb cbc0 cbc1 cbc2 fbc0 fbc1 fbc2 lbc
        have hW8 := chain (chain hW7 (alloc_below _ _)) hb8
        replace hs := hs.later (chain (alloc_below _ _) hb8) (Nat.le_refl _)
        replace ba := (ba.alloc _).later hb8
        replace bb := (bb.alloc _).later hb8
        replace bc := (bc.alloc _).later hb8
        obtain ⟨cba0, cba1, cba2, fba0, fba1, fba2⟩ := ba.c3
        have lba := ba.lt
        obtain ⟨cbb0, cbb1, cbb2, fbb0, fbb1, fbb2⟩ := bb.c3
        have lbb := bb.lt
        obtain ⟨cbc0, cbc1, cbc2, fbc0, fbc1, fbc2⟩ := bc.c3
        have lbc := bc.lt
        go_wp2_with fail
        refine (HE3.out _ _ (by assumption) hs).mono ?_
        rintro e w9 ⟨rfl, hb9⟩
        clear cba0 cba1 cba2 fba0 fba1 fba2 lba cbb0 cbb1 cbb2 fbb0 fbb1 fbb2 lbb cbc0 cbc1 cbc2 fbc0 fbc1 fbc2 lbc
        have hW9 := chain hW8 hb9
        replace hs := hs.later hb9 (Nat.le_refl _)
        replace ba := ba.later hb9
        replace bb := bb.later hb9
        replace bc := bc.later hb9
        obtain ⟨cba0, cba1, cba2, fba0, fba1, fba2⟩ := ba.c3
        have lba := ba.lt
        obtain ⟨cbb0, cbb1, cbb2, fbb0, fbb1, fbb2⟩ := bb.c3
        have lbb := bb.lt
        obtain ⟨cbc0, cbc1, cbc2, fbc0, fbc1, fbc2⟩ := bc.c3
        have lbc := bc.lt
        go_wp2_with fail
        refine (begun_any _).mono ?_
        rintro e w10 ⟨rfl, hb10⟩
        clear cba0 cba1 cba2 fba0 fba1 fba2 lba cbb0 cbb1 cbb2 fbb0 fbb1 fbb2 lbb cbc0 cbc1 cbc2 fbc0 fbc1 fbc2 lbc
        have hW10 := chain hW9 hb10
        replace hs := hs.later hb10 (Nat.le_refl _)
        replace ba := ba.later hb10
        replace bb := bb.later hb10
        replace bc := bc.later hb10
        obtain ⟨cba0, cba1, cba2, fba0, fba1, fba2⟩ := ba.c3
        have lba := ba.lt
        obtain ⟨cbb0, cbb1, cbb2, fbb0, fbb1, fbb2⟩ := bb.c3
        have lbb := bb.lt
        obtain ⟨cbc0, cbc1, cbc2, fbc0, fbc1, fbc2⟩ := bc.c3
        have lbc := bc.lt
        go_wp2_with fail
        go_ret
        exact ⟨by first | rfl | simp, hW10⟩
      · go_wp2_with fail
        refine (HD3.out _ _ hs).mono ?_
        rintro e w7 ⟨rfl, hb7⟩
        clear cba0 cba1 cba2 fba0 fba1 fba2 lba cbb0 cbb1 cbb2 fbb0 fbb1 fbb2 lbb cbc0 cbc1 cbc2 fbc0 fbc1 fbc2 lbc
        have hW7 := chain hW6 hb7
        replace hs := hs.later hb7 (Nat.le_refl _)
        replace ba := ba.later hb7
        replace bb := bb.later hb7
        replace bc := bc.later hb7
        obtain ⟨cba0, cba1, cba2, fba0, fba1, fba2⟩ := ba.c3
        have lba := ba.lt
        obtain ⟨cbb0, cbb1, cbb2, fbb0, fbb1, fbb2⟩ := bb.c3
        have lbb := bb.lt
        obtain ⟨cbc0, cbc1, cbc2, fbc0, fbc1, fbc2⟩ := bc.c3
        have lbc := bc.lt
        go_wp2_with fail
        refine (HD4.out _ _ (seen_vals w7 [a, b, c] _ 3 rfl rfl (by decide))).mono ?_
        rintro e w8 ⟨rfl, hb8⟩
        clear cba0 cba1 cba2 fba0 fba1 fba2 lba cbb0 cbb1 cbb2 fbb0 fbb1 fbb2 lbb cbc0 cbc1 cbc2 fbc0 fbc1 fbc2 lbc
        have hW8 := chain (chain hW7 (alloc_below _ _)) hb8
        replace hs := hs.later (chain (alloc_below _ _) hb8) (Nat.le_refl _)
        replace ba := (ba.alloc _).later hb8
        replace bb := (bb.alloc _).later hb8
        replace bc := (bc.alloc _).later hb8
        obtain ⟨cba0, cba1, cba2, fba0, fba1, fba2⟩ := ba.c3
        have lba := ba.lt
        obtain ⟨cbb0, cbb1, cbb2, fbb0, fbb1, fbb2⟩ := bb.c3
        have lbb := bb.lt
        obtain ⟨cbc0, cbc1, cbc2, fbc0, fbc1, fbc2⟩ := bc.c3
        have lbc := bc.lt
        go_wp2_with fail
        refine (begun_any _).mono ?_
        rintro e w9 ⟨rfl, hb9⟩
        clear cba0 cba1 cba2 fba0 fba1 fba2 lba cbb0 cbb1 cbb2 fbb0 fbb1 fbb2 lbb cbc0 cbc1 cbc2 fbc0 fbc1 fbc2 lbc
        have hW9 := chain hW8 hb9
        replace hs := hs.later hb9 (Nat.le_refl _)
        replace ba := ba.later hb9
        replace bb := bb.later hb9
        replace bc := bc.later hb9
        obtain ⟨cba0, cba1, cba2, fba0, fba1, fba2⟩ := ba.c3
        have lba := ba.lt
        obtain ⟨cbb0, cbb1, cbb2, fbb0, fbb1, fbb2⟩ := bb.c3
        have lbb := bb.lt
        obtain ⟨cbc0, cbc1, cbc2, fbc0, fbc1, fbc2⟩ := bc.c3
        have lbc := bc.lt
        go_wp2_with fail
        go_ret
        exact ⟨by first | rfl | simp, hW9⟩

/-! ### the row's step, by program -/
set_option maxRecDepth 100000 in
theorem lifted (os : Os) (started : os.Started) (H : Type) (enc : TypeId × Value → H) :
    ReturnsInHanded {} Try.checked os 5 .any (Rows.asksTellsSpec.pre6 enc Try.prog Try.f5 Rows.asksTellsRow.domain false) (Rows.asksTellsSpec.post enc Try.prog Try.f5 false true false false) := by
  refine returnsInHanded_of_change_sized (C := Try.checked) own started (by kernel_rfl) Try.func5
    (ChangeSpec.witness6 (enc := enc) (C := Try.checked) false ⟨#[], #[.agg #[.int .i64 0, .int .i64 0, .string ByteArray.empty], .agg #[.int .i64 0, .int .i64 0, .string ByteArray.empty], .agg #[.int .i64 0, .int .i64 0, .string ByteArray.empty], .slice none 0 0], []⟩ 8 (by kernel_rfl) (by kernel_rfl) (by kernel_rfl) (by kernel_rfl)) ?_
  intro W base args ds gs before hval0 hW hcnd hsz0 _
  have hval : ∀ (j : Nat) t v, Try.f5.params[j]? = some t → args[j]? = some v → Value.okWide Try.prog W .any base t v := hval0
  have hsz : (DataW.weightsEach Try.prog (Try.f5.params.toList ++ Rows.asksTellsSpec.plain.varTypes Try.prog) (ds ++ gs)).all (· ≤ reachBytes) = true := hsz0
  have hW' := hW
  obtain ⟨p, q, hA0, hV, rfl, hfz, hnd⟩ := hW
  have hA : DataW.TrodAll enc Try.prog W 0 (fun _ => true) true Try.f5.params.toList args.toList ds p := hA0
  rw [Try.params5] at hA hval hsz
  obtain ⟨v0, vs0, d0, ds0, p0, q0, hargs, rfl, rfl, h0, r0⟩ := trodAll_cons hA
  obtain ⟨v1, vs1, d1, ds1, p1, q1, rfl, rfl, rfl, h1, r1⟩ := trodAll_cons r0
  obtain ⟨v2, vs2, d2, ds2, p2, q2, rfl, rfl, rfl, h2, r2⟩ := trodAll_cons r1
  obtain ⟨v3, vs3, d3, ds3, p3, q3, rfl, rfl, rfl, h3, r3⟩ := trodAll_cons r2
  obtain ⟨rfl, rfl, rfl⟩ := trodAll_nil r3
  obtain rfl : args = #[v0, v1, v2, v3] := by cases args; simp_all
  obtain ⟨rfl, rfl⟩ := trodVars_none hV
  obtain ⟨x0, R0, k0⟩ := open_param ValP.opens_val h0 hsz (j := 0) (t := 27) rfl rfl
  have D0 := ValP.valR_is (agg_cells Try.underlying27 (hval 0 27 v0 rfl rfl) rfl) R0
  obtain ⟨x1, R1, k1⟩ := open_param ValP.opens_val h1 hsz (j := 1) (t := 27) rfl rfl
  have D1 := ValP.valR_is (agg_cells Try.underlying27 (hval 1 27 v1 rfl rfl) rfl) R1
  obtain ⟨x2, R2, k2⟩ := open_param ValP.opens_val h2 hsz (j := 2) (t := 27) rfl rfl
  have D2 := ValP.valR_is (agg_cells Try.underlying27 (hval 2 27 v2 rfl rfl) rfl) R2
  obtain ⟨l3, R3, k3⟩ := open_param (opens_slice Try.underlying28 (by kernel_rfl) ValP.opens_val) h3 hsz (j := 3) (t := 28) rfl rfl
  have s3 : Seen W v3 l3.length 3 (ValP.valCells l3) := by
    obtain ⟨u, e, r⟩ := R3
    rw [slice_cells Try.underlying28 (hval 3 28 v3 rfl rfl) e]
    exact r.flat
  clear hA0 hval0
  refine (walk x0 k0 v0 x1 k1 v1 x2 k2 v2 l3 k3 v3 W D0 D1 D2 s3).mono fun e W' ⟨he, bel⟩ => ?_
  subst he
  exact ⟨_, rfl, post_true laidOut (by kernel_rfl) Try.underlying4 (by kernel_rfl) rfl hW' rfl bel⟩

theorem proved : Rows.AsksTellsSaid :=
  OpenClaim.holds_of_wide 5 Try.f5 rfl rfl rfl rfl rfl rfl rfl ⟨rfl, rfl, rfl, rfl, rfl⟩ rfl rfl rfl rfl rfl (by kernel_rfl) Try.func5 (by kernel_rfl)
    (of_decide_eq_true (by kernel_rfl)) (by unfold Func.isWrapper; first | (rw [if_pos (by decide +kernel)]; kernel_rfl) | (rw [if_neg (by decide +kernel)]; exact ⟨rfl, rfl⟩))
    (fun os started H enc _ => lifted os started H enc)

end Go.Proofs.Ytplgobljgmlpkaa.asksTells

