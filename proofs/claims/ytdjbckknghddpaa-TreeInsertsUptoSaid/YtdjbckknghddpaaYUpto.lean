/- where what is handed in is of small bulk: how long a slice is -/
import Derived.Test.YtdjbckknghddpaaYOpen
namespace Go.Proofs.Ytdjbckknghddpaa.K
open Go.ChangeShapes Go.WideShapes Go.ChangeAt Go.RowKit
theorem bulk_pos {H:Type} (d:DataW H):1≤Rows.uptoBulk d:=by
 cases d with
 | lit l=>cases l<;>simp[Rows.uptoBulk]
 | nil=>simp[Rows.uptoBulk]
 | ptr d=>simp[Rows.uptoBulk]
 | slice a b=>simp[Rows.uptoBulk]
 | agg a=>simp[Rows.uptoBulk]
 | iface a b=>simp[Rows.uptoBulk]
 | map a=>simp[Rows.uptoBulk]
 | held a=>simp[Rows.uptoBulk]
theorem bulk_len {H:Type}:∀ds:List (DataW H),ds.length≤Rows.uptoBulkAll ds
 | []=>Nat.zero_le _
 | d::ds=>by
  have h1:=bulk_pos d
  have h2:=bulk_len ds
  simp only[Rows.uptoBulkAll,List.length_cons]
  omega
end Go.Proofs.Ytdjbckknghddpaa.K
