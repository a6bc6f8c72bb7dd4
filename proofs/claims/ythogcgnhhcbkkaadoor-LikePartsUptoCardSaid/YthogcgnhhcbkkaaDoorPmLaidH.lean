/- The laid tables, as a row with a condition of its own has them. -/
import Derived.Test.YthogcgnhhcbkkaaDoorPmLaid
import Derived.Deep.DeepHandedRow
import Derived.Deep.DeepWitnessRowRef
import Derived.Stop.Joined
namespace Go.Proofs.YthogcgnhhcbkkaaDoor.Pm
open Go.RowKit
theorem noH : (laidList.filter fun x => x.2.handleName?.isSome) = [] := by kernel_rfl
theorem toH {W : World} (h : laidMet Tryd.prog laidList W) : laidMetH Tryd.prog laidList W := by
  unfold laidMetH; rw [noH]; exact h
theorem ofH {W : World} (h : laidMetH Tryd.prog laidList W) : laidMet Tryd.prog laidList W := by
  unfold laidMetH at h; rw [noH] at h; exact h
end Go.Proofs.YthogcgnhhcbkkaaDoor.Pm
