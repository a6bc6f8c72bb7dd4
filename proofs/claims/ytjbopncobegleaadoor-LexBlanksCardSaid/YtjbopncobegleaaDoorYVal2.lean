/- values: lists of them; the order; the document's -/
import Derived.Test.YtjbopncobegleaaDoorYVal
namespace Go.Proofs.YtjbopncobegleaaDoor.ValP
open Go.RowKit K
theorem vcheck_of (k n : Int) (s : ByteArray) (w : World) (x : ValD) (hx : x = (k, n, s)) :
  Calls Tryd.prog 69 #[.agg #[.int .i64 k, .int .i64 n, .string s]] w fun e w' => e = .returned (.int .i64 (vcheck x)) ∧ Below w.heap.size w w' := by
 subst hx; exact check_any k n s w
theorem checkAll_drop (l : List ValD) (k : Nat) (hk : k < l.length) : checkAll (l.drop k) = if vcheck l[k] = 0 then checkAll (l.drop (k + 1)) else vcheck l[k] := by
 rw [List.drop_eq_getElem_cons hk]; rfl
end Go.Proofs.YtjbopncobegleaaDoor.ValP
