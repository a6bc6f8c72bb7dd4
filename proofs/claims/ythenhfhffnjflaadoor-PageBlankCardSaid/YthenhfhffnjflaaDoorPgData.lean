/- pages as data -/
import Derived.Test.YthenhfhffnjflaaDoorPmOpen
namespace Go.Proofs.YthenhfhffnjflaaDoor.Pm
open Go.RowKit K
set_option linter.unusedVariables false
set_option linter.unusedSimpArgs false

structure PageD where
  No : Int
  Kind : Int
  Owner : Int
  Body : List UInt8
def PageD.c (x : PageD) : List C := [.v (.int .i64 x.No), .v (.int .i64 x.Kind), .v (.int .i64 x.Owner), .v (.string (tx x.Body))]
def PageD.ok (x : PageD) : Prop := okInt x.No ∧ okInt x.Kind ∧ okInt x.Owner ∧ okText x.Body
theorem openC_Page : OpensC Tryd.prog 23 4 PageD.c PageD.ok := by
  refine ⟨by kernel_rfl, by decide, ?_⟩
  intro H enc w spare held fuel cs x h hl
  have ht : Tryd.prog.underlying 23 = some (.struct (Tryd.prog.fieldsOf 23)) := by kernel_rfl
  have hlen := struct_len ht h
  rw [show Tryd.prog.cellsOf 23 = 4 by kernel_rfl] at hlen
  obtain ⟨a0, e0, k0⟩ := field_of ht h hl 0 3 0 1 (by kernel_rfl) (openC_int Tryd.underlying3 (by kernel_rfl))
  obtain ⟨a1, e1, k1⟩ := field_of ht h hl 1 3 1 1 (by kernel_rfl) (openC_int Tryd.underlying3 (by kernel_rfl))
  obtain ⟨a2, e2, k2⟩ := field_of ht h hl 2 3 2 1 (by kernel_rfl) (openC_int Tryd.underlying3 (by kernel_rfl))
  obtain ⟨a3, e3, k3⟩ := field_of ht h hl 3 9 3 1 (by kernel_rfl) (openC_text Tryd.underlying9 (by kernel_rfl))
  have hall : CsRep (FW w) w (eInt a0 ++ (eInt a1 ++ (eInt a2 ++ (eText a3 ++ [])))) (cs.drop 0) := (cs_field e0 (cs_field e1 (cs_field e2 (cs_field e3 (cs_end hlen)))))
  rw [List.drop_zero] at hall
  exact ⟨hlen, ⟨a0, a1, a2, a3⟩, hall, ⟨k0, k1, k2, k3⟩⟩

end Go.Proofs.YthenhfhffnjflaaDoor.Pm
