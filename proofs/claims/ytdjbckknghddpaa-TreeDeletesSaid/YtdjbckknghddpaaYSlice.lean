/- Slices that are only read -/
import Derived.Test.YtdjbckknghddpaaYKit
import Derived.Laws.AppendOwnNone
namespace Go.Proofs.Ytdjbckknghddpaa.K
open Go.RowKit
def Seen (w:World) (v:Value) (n sz:Nat) (cs:List Value):Prop:=
 cs.length=n*sz∧∃a cap,v=.slice a n cap∧n≤cap∧cap≤maxLen∧(a=none→cap=0)∧
  (n=0∨∃b off,a=some ⟨b,off,none⟩∧b<w.heap.size∧∀j u,cs[j]? = some u→w.cell? ⟨b,off+j,none⟩=some u)
theorem Seen.nil (w:World) (sz:Nat):Seen w (.slice none 0 0) 0 sz []:=⟨by simp,none,0,rfl,Nat.le_refl _,Nat.zero_le _,fun _=>rfl,.inl rfl⟩
end Go.Proofs.Ytdjbckknghddpaa.K
