/- Slices that are only read -/
import Derived.Test.YtdjbckknghddpaaYKit
import Derived.Laws.AppendOwnNone
namespace Go.Proofs.Ytdjbckknghddpaa.K
open Go.RowKit
def Seen (w:World) (v:Value) (n sz:Nat) (cs:List Value):Prop:=
 cs.length=n*sz∧∃a cap,v=.slice a n cap∧n≤cap∧cap≤maxLen∧(a=none→cap=0)∧
  (n=0∨∃b off,a=some ⟨b,off,none⟩∧b<w.heap.size∧∀j u,cs[j]? = some u→w.cell? ⟨b,off+j,none⟩=some u)
theorem Seen.take {w:World} {a:Option Addr} {n cap sz k:Nat} {cs:List Value} (h:Seen w (.slice a n cap) n sz cs) (hk:k≤n):Seen w (.slice a k cap) k sz (cs.take (k*sz)):=by
 obtain⟨h0,a',cap',h1,h2,h3,hn,h4⟩:=h
 simp only[Value.slice.injEq,true_and] at h1
 obtain⟨rfl,rfl⟩:=h1
 have:k*sz≤n*sz:=Nat.mul_le_mul_right _ hk
 refine⟨by rw[List.length_take];omega,a,cap,rfl,by omega,h3,hn,?_⟩
 rcases h4 with h4 | ⟨b,off,h5,h6,h7⟩
 ·exact .inl (by omega)
 ·refine .inr ⟨b,off,h5,h6,fun j u hu=>h7 j u ?_⟩
  rw[List.getElem?_take] at hu
  split at hu
  ·exact hu
  ·simp at hu
theorem Seen.nil (w:World) (sz:Nat):Seen w (.slice none 0 0) 0 sz []:=⟨by simp,none,0,rfl,Nat.le_refl _,Nat.zero_le _,fun _=>rfl,.inl rfl⟩
end Go.Proofs.Ytdjbckknghddpaa.K
