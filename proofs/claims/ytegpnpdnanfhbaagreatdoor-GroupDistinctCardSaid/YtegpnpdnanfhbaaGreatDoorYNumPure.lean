/- Plain functions on numbers and lists of bytes: what num.Write and num.Read compute; no program is in sight. -/
namespace Go.Proofs.YtegpnpdnanfhbaaGreatDoor.NumP
abbrev Res:=Nat×Nat×Nat
def rd:Nat→Nat→Nat→List UInt8→Res
 | 0,_,_,_=>(0,0,2)
 | _+1,_,_,[]=>(0,0,5)
 | f+1,i,acc,b::r=>
  if i=9∧1<b.toNat then (0,0,2)
  else if b.toNat<128 then
   if b.toNat=0∧0<i then (0,0,1) else (acc+b.toNat%128*128^i,i+1,0)
  else rd f (i+1) (acc+b.toNat%128*128^i) r
section
variable {f k acc:Nat} {l:List UInt8} {R:Res}
end
def val:List UInt8→Nat
 | []=>0
 | b::r=>b.toNat%128+128*val r
end Go.Proofs.YtegpnpdnanfhbaaGreatDoor.NumP
