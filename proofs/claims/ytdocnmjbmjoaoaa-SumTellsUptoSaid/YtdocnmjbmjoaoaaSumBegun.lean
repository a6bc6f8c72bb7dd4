/- what the laws on checksums ask in any case; a text of one byte -/
import Derived.Test.YtdocnmjbmjoaoaaSumLess
namespace Go.Proofs.Ytdocnmjbmjoaoaa.SumW
open Go.RowKit SumP K

theorem byteText_any (b : UInt8) (w : World) :
    Calls Try.prog 15 #[.int .u8 (b.toNat : Int)] w fun e w' => e = .returned (.string ⟨[b].toArray⟩) ∧ Below w.heap.size w w' := by
  have hu8 := Try.underlying5
  have hstr := run_text (bs := [b]) 36 9 (own_built (w := w) (B := w.heap.size) (e := 5) [Value.int .u8 (b.toNat : Int)] 1 1 (Nat.le_refl _) (by decide) rfl) Try.underlying36 hu8 Try.underlying9
  go_enter Try.func15, Try.ntmps15
  go_wp2_with fail
  go_ret
  exact ⟨rfl, (Below.refl _ _).alloc (Nat.le_refl _) _⟩

/-! the numbers that the laws name: the register's value as an integer -/
theorem m9 : ((more 0#32 [49, 50, 51, 52, 53, 54, 55, 56, 57]).toNat : Int) = 3808858755 := by decide +kernel
theorem m0 : ((more 0#32 []).toNat : Int) = 0 := by decide +kernel
theorem m5 : ((more (more 0#32 [49, 50, 51, 52]) [53, 54, 55, 56, 57]).toNat : Int) = 3808858755 := by decide +kernel
theorem l9 : ((less 3808858755#32 57).toNat : Int) = ((more 0#32 [49, 50, 51, 52, 53, 54, 55, 56]).toNat : Int) := by decide +kernel

set_option maxRecDepth 100000 in
theorem begun_any (w : World) :
    Calls Try.prog 10 #[] w fun e w' => e = .returned (.bool true) ∧ Below w.heap.size w w' := by
  have H1 := Lib.hid m9
  have H2 := Lib.hid m0
  have H3 := Lib.hid m5
  have H4 := Lib.hid l9
  go_enter Try.func10, Try.ntmps10
  go_wp2_with (first
    | (go_at_call 13; (with_reducible refine (of_any ⟨#[49, 50, 51, 52, 53, 54, 55, 56, 57]⟩ _ (by decide)).mono ?_); rintro e w1 ⟨rfl, hb1⟩; rw [H1.out])
    | (go_at_call 13; (with_reducible refine (of_any ⟨#[]⟩ _ (by decide)).mono ?_); rintro e w2 ⟨rfl, hb2⟩; rw [H2.out])
    | (go_at_call 13; (with_reducible refine (of_any ⟨#[49, 50, 51, 52]⟩ _ (by decide)).mono ?_); rintro e w3 ⟨rfl, hb3⟩)
    | (go_at_call 13; (with_reducible refine (of_any ⟨#[49, 50, 51, 52, 53, 54, 55, 56]⟩ _ (by decide)).mono ?_); rintro e w4 ⟨rfl, hb4⟩)
    | (go_at_call 11; (with_reducible refine (more_any _ ⟨#[53, 54, 55, 56, 57]⟩ _ (by decide)).mono ?_); rintro e w5 ⟨rfl, hb5⟩; rw [H3.out])
    | (go_at_call 16; refine (less_any 3808858755#32 57 _).mono ?_; rintro e w6 ⟨rfl, rfl⟩; rw [H4.out]))
  go_ret
  exact ⟨rfl, chain hb1 (chain hb2 (chain hb3 (chain hb5 hb4)))⟩

end Go.Proofs.Ytdocnmjbmjoaoaa.SumW
