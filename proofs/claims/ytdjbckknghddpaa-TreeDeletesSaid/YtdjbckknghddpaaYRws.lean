/- Rows of elements of several cells; a slice of the call's own, later; texts that are one -/
import Derived.Test.YtdjbckknghddpaaYSlice
namespace Go.Proofs.Ytdjbckknghddpaa.K
open Go.RowKit
theorem flat_len {α:Type} (f:α→List Value) (sz:Nat) (hf:∀x,(f x).length=sz):∀q:List α,(q.flatMap f).length=q.length*sz
 | []=>by simp
 | x::q=>by rw[List.flatMap_cons,List.length_append,hf,flat_len f sz hf q,List.length_cons,Nat.succ_mul];omega
end Go.Proofs.Ytdjbckknghddpaa.K
