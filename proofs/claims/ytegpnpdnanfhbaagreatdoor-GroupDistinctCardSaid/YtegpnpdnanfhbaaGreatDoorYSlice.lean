/- Slices that are only read -/
import Derived.Test.YtegpnpdnanfhbaaGreatDoorYKit
import Derived.Laws.AppendOwnNone
namespace Go.Proofs.YtegpnpdnanfhbaaGreatDoor.K
open Go.RowKit
def Seen (w:World) (v:Value) (n sz:Nat) (cs:List Value):Prop:=
 cs.length=n*sz∧∃a cap,v=.slice a n cap∧n≤cap∧cap≤maxLen∧(a=none→cap=0)∧
  (n=0∨∃b off,a=some ⟨b,off,none⟩∧b<w.heap.size∧∀j u,cs[j]? = some u→w.cell? ⟨b,off+j,none⟩=some u)
theorem Seen.later {w w':World} {v:Value} {n sz:Nat} {cs:List Value} {B:Nat} (h:Seen w v n sz cs) (hb:Below B w w') (hB:w.heap.size≤B):Seen w' v n sz cs:=by
 obtain⟨h0,a,cap,h1,h2,h3,hn,h4⟩:=h
 refine⟨h0,a,cap,h1,h2,h3,hn,?_⟩
 rcases h4 with h4 | ⟨b,off,h5,h6,h7⟩
 ·exact .inl h4
 ·refine .inr ⟨b,off,h5,by have:=hb.size;omega,fun j u hu=>?_⟩
  have:=h7 j u hu
  unfold World.cell? at this ⊢
  rw[hb.block b (by omega)]
  exact this
theorem Seen.of_own {w:World} {v:Value} {n sz B e:Nat} {cs:List Value} (h:w.ownsRow B e sz v n cs):Seen w v n sz cs:=by
 obtain⟨h0,h | ⟨g,cap,cur,h1,h2,h3,h4,h5,h6,h7⟩⟩:=h
 ·obtain⟨rfl,h⟩:=h
  exact⟨h0,none,0,by rw[h],by omega,Nat.zero_le _,fun _=>rfl,.inl h⟩
 ·refine⟨h0,some ⟨g,0,none⟩,cap,h1,h4,h5,(fun e=>by cases e),.inr ⟨g,0,rfl,(Array.getElem?_eq_some_iff.1 h3).1,fun j u hu=>?_⟩⟩
  rw[Nat.zero_add,cell_of_row _ _ _ _ _ _ h3]
  have hj:j<cs.length:=(List.getElem?_eq_some_iff.1 hu).1
  have:=congrArg (fun l=>l[j]?) h7
  simp only[hu] at this
  rw[List.getElem?_take_of_lt (by omega)] at this
  simpa using this
theorem Seen.take {w:World} {a:Option Addr} {n cap sz k:Nat} {cs:List Value} (h:Seen w (.slice a n cap) n sz cs) (hk:k≤n):Seen w (.slice a k cap) k sz (cs.take (k*sz)):=by
 obtain⟨h0,a',cap',h1,h2,h3,hn,h4⟩:=h
 simp only[Value.slice.injEq,true_and] at h1
 obtain⟨rfl,rfl⟩:=h1
 have:k*sz≤n*sz:=Nat.mul_le_mul_right _ hk
 refine⟨by rw[List.length_take];omega,a,cap,rfl,by omega,h3,hn,?_⟩
 rcases h4 with h4 | ⟨b,off,h5,h6,h7⟩
 ·exact .inl (by omega)
 ·refine .inr ⟨b,off,h5,h6,fun j u hu=>h7 j u ?_⟩
  rw[List.getElem?_take] at hu
  split at hu
  ·exact hu
  ·simp at hu
theorem Seen.drop {w:World} {b off n cap sz k:Nat} {cs:List Value} (h:Seen w (.slice (some ⟨b,off,none⟩) n cap) n sz cs) (hk:k≤n) (hn:0<n) :
  Seen w (.slice (some ⟨b,off+k*sz,none⟩) (n - k) (cap - k)) (n - k) sz (cs.drop (k*sz)):=by
 obtain⟨h0,a',cap',h1,h2,h3,hn,h4⟩:=h
 simp only[Value.slice.injEq,true_and] at h1
 obtain⟨rfl,rfl⟩:=h1
 refine⟨by rw[List.length_drop,h0,Nat.sub_mul],_,cap - k,rfl,by omega,by omega,(fun e=>by cases e),?_⟩
 rcases h4 with h4 | ⟨b',off',h5,h6,h7⟩
 ·omega
 ·simp only[Option.some.injEq,Addr.mk.injEq,and_true] at h5
  obtain⟨rfl,rfl⟩:=h5
  refine .inr ⟨b,off+k*sz,rfl,h6,fun j u hu=>?_⟩
  rw[List.getElem?_drop] at hu
  rw[Nat.add_assoc]
  exact h7 _ u hu
theorem Seen.nil (w:World) (sz:Nat):Seen w (.slice none 0 0) 0 sz []:=⟨by simp,none,0,rfl,Nat.le_refl _,Nat.zero_le _,fun _=>rfl,.inl rfl⟩
theorem alloc_setRow (w:World) (a b:Array Value) (e:TypeId):(w.alloc (.cells a e)).setRow w.heap.size b=w.alloc (.cells b e):=by
 unfold World.setRow World.alloc
 congr 1
 apply Array.ext
 ·simp
 ·intro i h1 h2
  simp only[Array.getElem_modify]
  split
  ·rename_i hk;subst hk;simp
  ·rename_i hk
   simp only[Array.size_push] at h2
   rw[Array.getElem_push_lt (by omega),Array.getElem_push_lt (by omega)]
end Go.Proofs.YtegpnpdnanfhbaaGreatDoor.K
