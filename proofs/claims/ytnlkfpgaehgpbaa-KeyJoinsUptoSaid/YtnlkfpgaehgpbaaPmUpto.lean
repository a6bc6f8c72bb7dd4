/- Where what is handed in is of small bulk: how long a slice of the plain machine's is. -/
import Derived.Test.YtnlkfpgaehgpbaaPmOpen
import Derived.Test.YtnlkfpgaehgpbaaUpto
namespace Go.Proofs.Ytnlkfpgaehgpbaa.Pm
open Go.ChangeShapes Go.WideShapes Go.ChangeAt Go.RowKit K
set_option linter.unusedVariables false
set_option linter.unusedSimpArgs false

theorem slice_bulk {P : Program} {t e : TypeId} (hu : P.underlying t = some (.slice e)) {H : Type} {enc : TypeId × Value → H} {w : World} {spare : Nat → Bool} {held : Bool} {v : Value} {d : DataW H} {ps : List MemPlace}
    (h : DataW.Trod enc P w 0 spare held t v d ps) {F : Fzn} {α : Type} {sz : Nat} {en : α → List C} {l : List α} (R : CsRep F w (eSl sz en l) v.cells.toList) {N : Nat} (hb : Rows.uptoBulk d ≤ N) : l.length ≤ N := by
  obtain ⟨fuel, hf⟩ := h
  obtain ⟨u, us, e0, hc, _⟩ := csRep_inv R
  unfold CRep at hc
  obtain ⟨ad, cap, e1, _⟩ := hc
  rw [e0, e1, List.length_map] at hf
  rcases DataW.trod_slice hu hf with ⟨hcs, hx⟩ | ⟨a, len, cap', elems, rest, n, _, hcs, hx, hb', hlc, hm, hlen, _⟩
  · have := (List.cons.inj hcs).1
    injection this with _ h2 _
    omega
  · have := (List.cons.inj hcs).1
    injection this with _ h2 _
    have hd : d = .slice (elems.map (·.1)) (rest.map (·.1)) := congrArg Prod.fst hx
    have h3 := bulk_len (elems.map (·.1))
    rw [hd] at hb
    simp only [Rows.uptoBulk] at hb
    rw [List.length_map] at h3
    omega
end Go.Proofs.Ytnlkfpgaehgpbaa.Pm
