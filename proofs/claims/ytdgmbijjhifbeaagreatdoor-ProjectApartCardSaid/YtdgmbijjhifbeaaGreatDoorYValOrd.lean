/- values: the order is one; two that were handed in -/
import Derived.Test.YtdgmbijjhifbeaaGreatDoorYVal4
namespace Go.Proofs.YtdgmbijjhifbeaaGreatDoor.ValP
open Go.RowKit K Go.ChangeShapes Go.WideShapes
theorem order_eq (a b:ValD):order a b=if cmpI a.1 b.1≠0 then cmpI a.1 b.1 else if cmpI a.2.1 b.2.1≠0 then cmpI a.2.1 b.2.1 else if cmpS a.2.2 b.2.2≠0 then cmpS a.2.2 b.2.2 else 0:=rfl
end Go.Proofs.YtdgmbijjhifbeaaGreatDoor.ValP
