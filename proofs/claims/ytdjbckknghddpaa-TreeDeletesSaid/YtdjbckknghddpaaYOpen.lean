/- A slice that was handed in, opened: the cells of its elements, and how each reads -/
import Derived.Test.YtdjbckknghddpaaYSlice
import Derived.Test.YtdjbckknghddpaaYFrame
import Derived.ChangeSlices
namespace Go.Proofs.Ytdjbckknghddpaa.K
open Go.ChangeShapes Go.WideShapes Go.ChangeAt Go.RowKit
theorem get_flat {sz:Nat}:∀(css:List (List Value)),(∀c∈css,c.length=sz)→∀i r,r<sz→css.flatten[i*sz+r]? = css[i]?.bind (·[r]?)
 | [],_,i,r,_=>by simp
 | c::css,h,i,r,hr=>by
  have hc:c.length=sz:=h c (List.mem_cons_self ..)
  cases i with
  | zero=>simp only[Nat.zero_mul,Nat.zero_add,List.flatten_cons,List.getElem?_cons_zero,Option.bind_some];rw[List.getElem?_append_left (by omega)]
  | succ i=>
   rw[List.flatten_cons,List.getElem?_append_right (by rw[hc,Nat.succ_mul];omega),show (i+1)*sz+r - c.length=i*sz+r by rw[hc,Nat.succ_mul];omega,
    get_flat css (fun c hc=>h c (List.mem_cons_of_mem _ hc)) i r hr]
   rfl
theorem length_flat {sz:Nat}:∀(css:List (List Value)),(∀c∈css,c.length=sz)→css.flatten.length=css.length*sz
 | [],_=>by simp
 | c::css,h=>by
  rw[List.flatten_cons,List.length_append,length_flat css (fun c hc=>h c (List.mem_cons_of_mem _ hc)),h c (List.mem_cons_self ..),List.length_cons,Nat.succ_mul];omega
theorem add_add (b off x y:Nat):((⟨b,off,none⟩:Addr).add x).add y=⟨b,off+(x+y),none⟩:=by
 unfold Addr.add
 by_cases h1:x=0
 ·subst h1
  by_cases h2:y=0
  ·subst h2;simp
  ·simp[h2]
 ·by_cases h2:y=0
  ·subst h2;simp[h1]
  ·simp[h1,h2,Nat.add_assoc]
section
variable {H:Type} {enc:TypeId×Value→H} {P:Program} {w:World} {spare:Nat→Bool} {held:Bool}
end
end Go.Proofs.Ytdjbckknghddpaa.K
