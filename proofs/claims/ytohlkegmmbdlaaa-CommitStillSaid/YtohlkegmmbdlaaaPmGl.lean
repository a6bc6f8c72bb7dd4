/- Which package-level variables are known, and what they hold. -/
import Derived.Test.YtohlkegmmbdlaaaKit
namespace Go.Proofs.Ytohlkegmmbdlaaa.Pm
open Go.RowKit
set_option linter.unusedVariables false
set_option linter.unusedSimpArgs false
def GB (b : Nat) : Prop := False
def GL (w : World) : Prop := True
theorem GL_keep {w w' : World} (h : GL w) (hb : ∀ b, GB b → w'.heap[b]? = w.heap[b]?) : GL w' := trivial
theorem GL_lt {w : World} (h : GL w) {b : Nat} (hb : GB b) : b < w.heap.size := hb.elim
end Go.Proofs.Ytohlkegmmbdlaaa.Pm
