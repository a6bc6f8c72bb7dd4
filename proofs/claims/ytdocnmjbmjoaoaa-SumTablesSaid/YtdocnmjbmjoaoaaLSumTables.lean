/- SumTables: each entry of the table is the xor of those of its bits; one byte more is one step by the table. Conditions: none beyond the statement's own. -/
import Derived.Test.YtdocnmjbmjoaoaaFrame
import Derived.Test.YtdocnmjbmjoaoaaSumLaws
namespace Go.Proofs.Ytdocnmjbmjoaoaa.sumTables
open Go.ChangeShapes Go.WideShapes Go.ChangeAt Go.RowKit
open Go.ChangeMaps (open_string shut_string)
set_option linter.unusedVariables false

open K SumP SumW

theorem tab_xor (a b : UInt8) : T (ext (a ^^^ b)) = T (ext a) ^^^ T (ext b) := by
  rw [← T_xor]; congr 1
  apply BitVec.eq_of_toNat_eq
  simp [ext]

theorem ext_ofNat (b : UInt8) : BitVec.ofNat 32 b.toNat = ext b := rfl

theorem more_step (c : W) (a : UInt8) : more c [a] = ~~~ (T ((~~~ c ^^^ ext a) &&& 255#32) ^^^ (~~~ c >>> 8)) := by
  unfold more
  rw [show crc (~~~ c) [a] = crcB (~~~ c) (bits8 a) by simp [crc, bitsOf], crc_round]

theorem xor_byte (a b : UInt8) : bits .xor .u8 ((a.toNat : Nat) : Int) ((b.toNat : Nat) : Int) = (((a ^^^ b).toNat : Nat) : Int) := by
  have ha := UInt8.toNat_lt a
  have hb := UInt8.toNat_lt b
  rw [u8_xor_nat _ _ (by omega) (by omega), UInt8.toNat_xor]

theorem tab_ext (b : UInt8) : (tabTo 256)[b.toNat]? = some (.int .u32 (((T (ext b)).toNat : Nat) : Int)) := by
  have hb := UInt8.toNat_lt b
  rw [tabTo_at 256 _ (by omega), if_pos (by omega)]; rfl

set_option maxRecDepth 100000 in
set_option maxHeartbeats 2000000 in
theorem walk (a' : Int) (a0 : 0 ≤ a') (a1 : a' ≤ 255) (b' : Int) (b0 : 0 ≤ b') (b1 : b' ≤ 255) (c' : Int) (c0 : 0 ≤ c') (c1 : c' ≤ 4294967295) (w : World) :
    Calls Try.prog 4 #[.int .u8 a', .int .u8 b', .int .u32 c'] w fun e w' => e = .returned (.bool true) ∧ Below w.heap.size w w' := by
  obtain ⟨c, rfl⟩ := reg_of c' c0 c1
  obtain ⟨a, rfl⟩ := byte_of a' a0 a1
  obtain ⟨b, rfl⟩ := byte_of b' b0 b1
  clear c0 c1 b0 b1 a0 a1
  have hz := zeroTab
  go_enter Try.func4, Try.ntmps4
  go_wp2_with (first
    | (go_at_call 14; refine (table_any _).mono ?_; rintro e w1 ⟨rfl, hb1⟩)
    | ((with_reducible refine wpList_store_row (o := ⟨none, Op.store 27 _ _, _, _, _, _⟩) rfl _ _ _ rfl w1.heap.size (tabTo 256) rfl rfl 27 (tabTo 0) (heap_alloc_last _ _) (by rw [tabTo_size]; exact sizeTab) (by rw [tabTo_size, tabTo_size]) (tabTo_one 256) ?_); rw [World.setRow_alloc_new]))
  clear hz
  have hbt := hb1.alloc hb1.size (.cells (tabTo 256) 27)
  have hrow := heap_alloc_last w1 (.cells (tabTo 256) 27)
  generalize hB : w1.heap.size = B at *
  generalize w1.alloc (.cells (tabTo 256) 27) = w2 at *
  have hcell : ∀ (j : Nat) (v : Value), (tabTo 256)[j]? = some v → w2.cell? ⟨B, j, none⟩ = some v := fun j v hv => by rw [cell_of_row _ _ j _ _ _ hrow]; exact hv
  have k0 : w2.cell? ⟨B, 0, none⟩ = some (.int .u32 0) := hcell 0 _ (by rw [tabTo_at 256 0 (by omega)]; rfl)
  have k128 : w2.cell? ⟨B, 128, none⟩ = some (.int .u32 2197175160) := hcell 128 _ (by rw [tabTo_at 256 128 (by omega), if_pos (by omega), show ((T (BitVec.ofNat 32 128)).toNat : Int) = 2197175160 by decide +kernel])
  have kab := hcell (a ^^^ b).toNat _ (tab_ext (a ^^^ b))
  have ka := hcell a.toNat _ (tab_ext a)
  have kb := hcell b.toNat _ (tab_ext b)
  have hxab := xor_byte a b
  have htx : bits .xor .u32 (((T (ext a)).toNat : Nat) : Int) (((T (ext b)).toNat : Nat) : Int) = (((T (ext (a ^^^ b))).toNat : Nat) : Int) := by rw [xor_toNat, tab_xor]
  have hidx := idx_eq (~~~ c) a
  have hlt := idx_lt (~~~ c ^^^ ext a)
  have hst := more_step c a
  have hc := not_toNat c
  generalize ((~~~ c ^^^ ext a) &&& 255#32) = x at *
  generalize ~~~ c = r at *
  have kx := hcell x.toNat _ (by rw [tabTo_at 256 _ hlt, if_pos hlt, BitVec.ofNat_toNat, BitVec.setWidth_eq])
  have h8 := shr8_toNat r
  have hq := xor_toNat (T x) (r >>> 8)
  have hm := not_toNat (T x ^^^ (r >>> 8))
  rw [← hst] at hm
  clear hst
  generalize T x ^^^ (r >>> 8) = z at *
  generalize r >>> 8 = q at *
  generalize a ^^^ b = y at *
  generalize T (ext y) = ty at *
  generalize T (ext a) = ta at *
  generalize T (ext b) = tb at *
  generalize T x = tx at *
  have hw8 : IntKind.u8.wrap ((r.toNat : Nat) : Int) = ((r.toNat : Nat) : Int) % 256 := IntKind.wrap_u8' _
  have h1s : Hid ((⟨[a].toArray⟩ : ByteArray).size ≤ 9223372036854775807) := by show 1 ≤ 9223372036854775807; decide
  have la : (a.toNat : Int) < 256 := by have := UInt8.toNat_lt a; omega
  have lb : (b.toNat : Int) < 256 := by have := UInt8.toNat_lt b; omega
  have lab : (y.toNat : Int) < 256 := by have := UInt8.toNat_lt y; omega
  have lx : (x.toNat : Int) < 256 := by omega
  clear hcell hrow hB
  rw [hc]
  go_region_held3 (fun w' => w'.cell? ⟨B, 0, none⟩ = some (.int .u32 0) ∧ w'.cell? ⟨B, 128, none⟩ = some (.int .u32 2197175160) ∧
      w'.cell? ⟨B, y.toNat, none⟩ = some (.int .u32 ((ty.toNat : Nat) : Int)) ∧ w'.cell? ⟨B, a.toNat, none⟩ = some (.int .u32 ((ta.toNat : Nat) : Int)) ∧
      w'.cell? ⟨B, b.toNat, none⟩ = some (.int .u32 ((tb.toNat : Nat) : Int)) ∧ w'.cell? ⟨B, x.toNat, none⟩ = some (.int .u32 ((tx.toNat : Nat) : Int)))
    (exact ⟨k0, k128, kab, ka, kb, kx⟩)
    (first
      | (go_at_call 10; (with_reducible refine (begun_any _).mono ?_); rintro e w3 ⟨rfl, hb3⟩; have k0 := cell_later hb3 k0; have k128 := cell_later hb3 k128; have kab := cell_later hb3 kab; have ka := cell_later hb3 ka; have kb := cell_later hb3 kb; have kx := cell_later hb3 kx)
      | (go_at_call 15; (with_reducible refine (byteText_any a _).mono ?_); rintro e w4 ⟨rfl, hb4⟩; have k0 := cell_later hb4 k0; have k128 := cell_later hb4 k128; have kab := cell_later hb4 kab; have ka := cell_later hb4 ka; have kb := cell_later hb4 kb; have kx := cell_later hb4 kx)
      | (go_at_call 11; (with_reducible refine (more_any c ⟨[a].toArray⟩ _ h1s.out).mono ?_); rintro e w5 ⟨rfl, hb5⟩; have k0 := cell_later hb5 k0; have k128 := cell_later hb5 k128; have kab := cell_later hb5 kab; have ka := cell_later hb5 ka; have kb := cell_later hb5 kb; have kx := cell_later hb5 kx))
  go_wp2_with fail
  go_ret
  exact ⟨rfl, chain hbt.drew (chain hb3 (chain hb4 hb5))⟩

/-! ### the row's step, by program -/
set_option maxRecDepth 100000 in
theorem lifted (os : Os) (started : os.Started) (H : Type) (enc : TypeId × Value → H) :
    ReturnsInHanded {} Try.checked os 4 .any (Rows.sumTablesSpec.pre6 enc Try.prog Try.f4 Rows.sumTablesRow.domain false) (Rows.sumTablesSpec.post enc Try.prog Try.f4 false true false false) := by
  refine returnsInHanded_of_change_sized (C := Try.checked) own started (by kernel_rfl) Try.func4
    (ChangeSpec.witness6 (enc := enc) (C := Try.checked) false ⟨#[], #[.int .u8 0, .int .u8 0, .int .u32 0], []⟩ 8 (by kernel_rfl) (by kernel_rfl) (by kernel_rfl) (by kernel_rfl)) ?_
  intro W base args ds gs before hval0 hW hcnd hsz0 _
  have hval : ∀ (j : Nat) t v, Try.f4.params[j]? = some t → args[j]? = some v → Value.okWide Try.prog W .any base t v := hval0
  have hsz : (DataW.weightsEach Try.prog (Try.f4.params.toList ++ Rows.sumTablesSpec.plain.varTypes Try.prog) (ds ++ gs)).all (· ≤ reachBytes) = true := hsz0
  have hW' := hW
  obtain ⟨p, q, hA0, hV, rfl, hfz, hnd⟩ := hW
  have hA : DataW.TrodAll enc Try.prog W 0 (fun _ => true) true Try.f4.params.toList args.toList ds p := hA0
  rw [Try.params4] at hA hval hsz
  obtain ⟨v0, vs0, d0, ds0, p0, q0, hargs, rfl, rfl, h0, r0⟩ := trodAll_cons hA
  obtain ⟨v1, vs1, d1, ds1, p1, q1, rfl, rfl, rfl, h1, r1⟩ := trodAll_cons r0
  obtain ⟨v2, vs2, d2, ds2, p2, q2, rfl, rfl, rfl, h2, r2⟩ := trodAll_cons r1
  obtain ⟨rfl, rfl, rfl⟩ := trodAll_nil r2
  obtain rfl : args = #[v0, v1, v2] := by cases args; simp_all
  obtain ⟨rfl, rfl⟩ := trodVars_none hV
  obtain ⟨a0, rfl, rfl, rfl, wf0⟩ := open_int Try.underlying5 (hval 0 5 v0 rfl rfl) h0
  have w0 : 0 ≤ a0 ∧ a0 ≤ 255 := by simpa [Lit.wf, IntKind.min, IntKind.max, IntKind.signed, IntKind.bits] using wf0
  obtain ⟨a1, rfl, rfl, rfl, wf1⟩ := open_int Try.underlying5 (hval 1 5 v1 rfl rfl) h1
  have w1 : 0 ≤ a1 ∧ a1 ≤ 255 := by simpa [Lit.wf, IntKind.min, IntKind.max, IntKind.signed, IntKind.bits] using wf1
  obtain ⟨a2, rfl, rfl, rfl, wf2⟩ := open_int Try.underlying22 (hval 2 22 v2 rfl rfl) h2
  have w2 : 0 ≤ a2 ∧ a2 ≤ 4294967295 := by simpa [Lit.wf, IntKind.min, IntKind.max, IntKind.signed, IntKind.bits] using wf2
  clear hA0 hval0
  refine (walk a0 w0.1 w0.2 a1 w1.1 w1.2 a2 w2.1 w2.2 W).mono fun e W' ⟨he, bel⟩ => ?_
  subst he
  exact ⟨_, rfl, post_true laidOut (by kernel_rfl) Try.underlying4 (by kernel_rfl) rfl hW' rfl bel⟩

theorem proved : Rows.SumTablesSaid :=
  OpenClaim.holds_of_wide 4 Try.f4 rfl rfl rfl rfl rfl rfl rfl ⟨rfl, rfl, rfl, rfl, rfl⟩ rfl rfl rfl rfl rfl (by kernel_rfl) Try.func4 (by kernel_rfl)
    (of_decide_eq_true (by kernel_rfl)) (by unfold Func.isWrapper; first | (rw [if_pos (by decide +kernel)]; kernel_rfl) | (rw [if_neg (by decide +kernel)]; exact ⟨rfl, rfl⟩))
    (fun os started H enc _ => lifted os started H enc)

end Go.Proofs.Ytdocnmjbmjoaoaa.sumTables

