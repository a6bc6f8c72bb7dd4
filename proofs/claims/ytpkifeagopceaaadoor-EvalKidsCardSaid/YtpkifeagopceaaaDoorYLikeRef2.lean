/- the document's pieces; is a pattern right? -/
import Derived.Test.YtpkifeagopceaaaDoorYLikeRef
namespace Go.Proofs.YtpkifeagopceaaaDoor.LikeP
open Go.RowKit K
theorem elStrs : El Tryd.prog 23 9 (.string ⟨#[]⟩) 1 16 := El.mk Tryd.underlying23 (by kernel_rfl) rfl (by decide) (by decide)
end Go.Proofs.YtpkifeagopceaaaDoor.LikeP
