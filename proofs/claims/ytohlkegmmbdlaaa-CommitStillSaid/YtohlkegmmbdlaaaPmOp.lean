/- The plain machine's operations: what must be shown, one by one, in the text's order. -/
import Derived.Test.YtohlkegmmbdlaaaPmSt
namespace Go.Proofs.Ytohlkegmmbdlaaa.Pm
open Go.RowKit

/-! ### where the reckoning stops: what is to be shown there -/
inductive BCase (b : Bool) (A B : Prop) : Prop
  | mk (t : b = true → A) (f : b = false → B)
inductive Wr (k : IntKind) (x : Int) (K : Int → Prop) : Prop
  | mk (n : Int) (h : k.wrap x = n) (hk : K n)
inductive Idx (l : List (List C)) (n : Int) (K : List C → Prop) : Prop
  | mk (r : List C) (h0 : 0 ≤ n) (h : l[n.toNat]? = some r) (hk : K r)
inductive DIdx (l : List D) (n : Int) (K : D → Prop) : Prop
  | mk (x : D) (h0 : 0 ≤ n) (h : l[n.toNat]? = some x) (hk : K x)
inductive SIdx (s : ByteArray) (n : Int) (K : Int → Prop) : Prop
  | mk (b : UInt8) (h0 : 0 ≤ n) (h : s.data.toList[n.toNat]? = some b) (hk : K (b.toNat : Int))
inductive Row {α : Type} (l : List (List α)) (n : Nat) (K : List α → Prop) : Prop
  | mk (r : List α) (h : l[n]? = some r) (hk : K r)
inductive Need (p : Prop) (K : Prop) : Prop
  | mk (h : p) (hk : K)
inductive Bytes (l : List (List C)) (K : List UInt8 → Prop) : Prop
  | mk (bs : List UInt8) (h : l = bs.map fun b => [C.v (.int .u8 (b.toNat : Int))]) (hk : K bs)

/-- what an operation does to the keys -/
abbrev Dl := List (Nat × Option HB)
def Dl.app (h : Hp) : Dl → Hp
  | [] => h
  | (k, b) :: r => Dl.app (upd h k b) r
abbrev Dl.keys (δ : Dl) : List Nat := δ.map Prod.fst
abbrev Rf := List (Nat × HB)

abbrev fz (c : Ctx) (σ : Sg) (h : Hp) (w : World) : Fzn := Fz c σ h w.heap.size

def fnOk (P : Program) (f : FuncId) : Prop := ∃ fn, P.funcs[f]? = some fn ∧ (fn.name == "runtime.NumGoroutine") = false ∧ fn.body.isNone = false
/-- keys that are new: neither looked at -/
def Fresh (σ : Sg) (δ : Dl) (rf : Rf) : Prop := ∀ k ∈ Dl.keys δ, (∀ p ∈ rf, p.1 ≠ k) → σ k = none
def hpL : List (Nat × HB) → Hp
  | [], _ => none
  | (k, b) :: l, j => bif Nat.beq j k then some b else hpL l j
/-- what a call answers, and what becomes of the keys that it was handed: rd as they were, rf given up or turned, out there now -/
def CallS (P : Program) (f : FuncId) (args : List PV) (rd rf : Rf) (res : PV) (out : Rf) : Prop :=
  fnOk P f ∧ ∀ (c : Ctx) (vs : List Value), c.Ok → c.df = [] → (∀ k, k ∉ (rd ++ rf).map Prod.fst → c.σ0 k = none) → SW c c.σ0 (hpL (rd ++ rf)) c.w0 → PsRep c.σ0 (fz c c.σ0 (hpL (rd ++ rf)) c.w0) c.w0 args vs →
    Calls P f vs.toArray c.w0 fun e w' => ∃ v σ', e = .returned v ∧ SW c σ' (hpL (rd ++ out)) w' ∧ PRep σ' (fz c σ' (hpL (rd ++ out)) w') w' res v
/-- a call that panics -/
def CallX (P : Program) (f : FuncId) (args : List PV) (rd : Rf) (x : Value) : Prop :=
  fnOk P f ∧ ∀ (c : Ctx) (vs : List Value), c.Ok → c.df = [] → (∀ k, k ∉ rd.map Prod.fst → c.σ0 k = none) → SW c c.σ0 (hpL rd) c.w0 → PsRep c.σ0 (fz c c.σ0 (hpL rd) c.w0) c.w0 args vs →
    Calls P f vs.toArray c.w0 fun e w' => e = .panicked [{ v := x, recovered := false }] ∧ ∃ σ', SW c σ' (fun _ => none) w'
/-- what a call of a function answers: from plain arguments a plain answer; nothing that was there is turned -/
def Pure (P : Program) (f : FuncId) (args : List PV) (res : PV) : Prop :=
  fnOk P f ∧ ∀ (F : Fzn) (w : World) (vs : List Value), GL w → (∀ b o, F b o → b < w.heap.size) → PsRep (fun _ => none) F w args vs →
    Calls P f vs.toArray w fun e w' => ∃ v, e = .returned v ∧ Below w.heap.size w w' ∧ PRep (fun _ => none) (fun b o => F b o ∨ (w.heap.size ≤ b ∧ b < w'.heap.size)) w' res v

abbrev OpK := PV → Dl → Rf → Prop
def rfIn (h : Hp) : Rf → Prop
  | [] => True
  | (k, b) :: r => h k = some b ∧ rfIn h r
/-! ### forms -/
def D.force (x : D) (K : D → Prop) : Prop := match x with
  | .c y => K (.c y)
  | .app k e sz l => K (.app k e sz l)
  | .ptr k off => K (.ptr k off)
  | .arr k e sz lo n => K (.arr k e sz lo n)
  | .elt k sz i off => K (.elt k sz i off)
  | .clo f a l => K (.clo f a l)
  | .optp k off => K (.optp k off)
  | .data k e l => K (.data k e l)
  | .mp k => K (.mp k)
  | .emp => K .emp
def PV.force (v : PV) (K : PV → Prop) : Prop := match v with
  | .d x => D.force x fun y => K (.d y)
  | .agg l => K (.agg l)
  | .tup l => K (.tup l)
  | .any => K .any
def forceL {α : Type} : List α → (List α → Prop) → Prop
  | [], K => K []
  | x :: xs, K => forceL xs fun ys => K (x :: ys)
def D.close (x : D) (K : C → Prop) : Prop := match x with
  | .c y => K y
  | .app _ _ sz l => K (.sl sz l)
  | .clo f [] [] => K (.v (.func (.func f) #[] #[]))
  | _ => False
def closeL : List D → (List C → Prop) → Prop
  | [], K => K []
  | x :: xs, K => D.close x fun y => closeL xs fun ys => K (y :: ys)
mutual
def PV.close : PV → (PV → Prop) → Prop
  | .d x, K => D.close x fun y => K (.d (.c y))
  | .agg l, K => closeL l fun ys => K (.agg (ys.map D.c))
  | .tup l, K => closePs l fun ys => K (.tup ys)
  | .any, _ => False
def closePs : List PV → (List PV → Prop) → Prop
  | [], K => K []
  | x :: xs, K => PV.close x fun y => closePs xs fun ys => K (y :: ys)
end
def closesTo (l ys : List PV) : Prop := closePs l fun zs => zs = ys
/-! ### keys named anew -/
def fnL : List (Nat × Nat) → Nat → Option Nat
  | [], _ => none
  | (a, b) :: l, k => bif Nat.beq k a then some b else fnL l k
abbrev Ren := List (Nat × Nat)
mutual
def renD (ρ : Ren) : D → (D → Prop) → Prop
  | .c x, K => K (.c x)
  | .app k e sz l, K => match fnL ρ k with
    | some k' => K (.app k' e sz l)
    | none => False
  | .ptr k o, K => match fnL ρ k with
    | some k' => K (.ptr k' o)
    | none => False
  | .arr k e sz lo n, K => match fnL ρ k with
    | some k' => K (.arr k' e sz lo n)
    | none => False
  | .elt k sz i o, K => match fnL ρ k with
    | some k' => K (.elt k' sz i o)
    | none => False
  | .clo f a l, K => renDs ρ a fun a' => renDs ρ l fun l' => K (.clo f a' l')
  | .optp k o, K => match fnL ρ k with
    | some k' => K (.optp k' o)
    | none => False
  | .data k e l, K => match fnL ρ k with
    | some k' => K (.data k' e l)
    | none => False
  | .mp k, K => match fnL ρ k with
    | some k' => K (.mp k')
    | none => False
  | .emp, K => K .emp
def renDs (ρ : Ren) : List D → (List D → Prop) → Prop
  | [], K => K []
  | x :: xs, K => renD ρ x fun y => renDs ρ xs fun ys => K (y :: ys)
end
mutual
def renP (ρ : Ren) : PV → (PV → Prop) → Prop
  | .d x, K => renD ρ x fun y => K (.d y)
  | .agg l, K => renDs ρ l fun l' => K (.agg l')
  | .tup l, K => renPs ρ l fun l' => K (.tup l')
  | .any, K => K .any
def renPs (ρ : Ren) : List PV → (List PV → Prop) → Prop
  | [], K => K []
  | x :: xs, K => renP ρ x fun y => renPs ρ xs fun ys => K (y :: ys)
end
def renRows (ρ : Ren) : List (List D) → (List (List D) → Prop) → Prop
  | [], K => K []
  | r :: rs, K => renDs ρ r fun r' => renRows ρ rs fun rs' => K (r' :: rs')
def renHB (ρ : Ren) : HB → (HB → Prop) → Prop
  | .box bt l, K => renDs ρ l fun l' => K (.box bt l')
  | .tail e sz, K => K (.tail e sz)
  | .arr e sz rows, K => K (.arr e sz rows)
  | .mp l, K => K (.mp l)
  | .darr e sz rows, K => renRows ρ rows fun rows' => K (.darr e sz rows')
def renRf (ρ : Ren) : Rf → (Rf → Prop) → Prop
  | [], K => K []
  | (k, b) :: r, K => match fnL ρ k with
    | some k' => renHB ρ b fun b' => renRf ρ r fun r' => K ((k', b') :: r')
    | none => False
/-- what a call does to the keys -/
def deltaOf (rf out : Rf) : Dl := rf.map (fun p => (p.1, none)) ++ out.map (fun p => (p.1, some p.2))
/-- no name twice, on either side -/
def renOk : Ren → Bool
  | [] => true
  | (a, b) :: r => (r.all fun p => !Nat.beq p.1 a && !Nat.beq p.2 b) && renOk r
def ndK : Rf → Bool
  | [] => true
  | (k, _) :: r => (r.all fun p => !Nat.beq p.1 k) && ndK r
def rfHas (k : Nat) : Rf → Bool
  | [] => false
  | (q, _) :: r => bif Nat.beq q k then true else rfHas k r
def namesOk (ρ : Ren) (rd rf out : Rf) : Bool := renOk ρ && (ndK (rd ++ rf) && (ndK (rd ++ out) && ρ.all fun p => rfHas p.1 (rd ++ (rf ++ out))))
/-- a function of the library's that hands back what it was handed -/
def sameX (P : Program) (f : FuncId) : Prop := ∃ fn, P.funcs[f]? = some fn ∧ (fn.name == "runtime.NumGoroutine") = false ∧ fn.body.isNone = true ∧ Extern.findNext fn = none ∧ Extern.find fn = some Extern.AbiNoEscape.same
/-- without the keys that were handed over -/
def dropK (h : Hp) (r : Rf) : Hp := fun k => match rfHas k r with
  | true => none
  | false => h k
/-- a call: one with keys; one of plain arguments; one that panics -/
inductive CallP (P : Program) (f : FuncId) (args : List PV) (h : Hp) (K : OpK) (X : Value → Hp → Prop) : Prop
  | ret (ρ : Ren) (args0 : List PV) (rd rf : Rf) (res : PV) (out : Rf) (rd' rf' : Rf) (hc : CallS P f args0 rd rf res out) (hn : namesOk ρ rd rf out = true) (ha : renPs ρ args0 fun zs => zs = args)
      (h1 : renRf ρ rd fun r => r = rd') (h2 : renRf ρ rf fun r => r = rf') (hr : rfIn h (rd' ++ rf'))
      (hk : renRf ρ out fun out' => renP ρ res fun r => K r (deltaOf rf' out') (rd' ++ rf'))
  | same (x : PV) (hc : sameX P f) (ha : args = [x]) (hk : K x [] [])
  | pure (ys : List PV) (hy : closesTo args ys) (r : PV) (hc : Pure P f ys r) (hk : K r [] [])
  | pan (ρ : Ren) (args0 : List PV) (rd rd' : Rf) (x : Value) (hc : CallX P f args0 rd x) (hn : namesOk ρ rd [] [] = true) (ha : renPs ρ args0 fun zs => zs = args) (h1 : renRf ρ rd fun r => r = rd') (hr : rfIn h rd') (hx : X x (dropK h rd'))

/-- a value's cells -/
def PV.cells (v : PV) (K : List D → Prop) : Prop := match v with
  | .d x => K [x]
  | .agg l => K l
  | _ => False
/-- the rows of a slice -/
def PV.rows (v : PV) (K : List (List C) → Prop) : Prop := match v with
  | .d (.c (.sl _ l)) => K l
  | .d (.app _ _ _ l) => K l
  | .d (.c (.v (.slice none 0 0))) => K []
  | _ => False

/-- the rows of a slice, sz cells each -/
def PV.rowsOf (v : PV) (sz : Nat) (K : List (List C) → Prop) : Prop := match v with
  | .d (.c (.sl s l)) => match Nat.beq s sz with
    | true => K l
    | false => False
  | .d (.app _ _ s l) => match Nat.beq s sz with
    | true => K l
    | false => False
  | .d (.c (.v (.slice none 0 0))) => K []
  | .d (.c (.v (.slice (some _) 0 _))) => K []
  | _ => False

def constPV : Value → PV
  | .agg cs => bif cs.toList.all Value.oneCell' then .agg (cs.toList.map fun x => .c (.v x)) else .any
  | .tuple _ => .any
  | x => .d (.c (.v x))
def ev (e : Env) : Operand → PV
  | .tmp t => e t
  | .const v => constPV v
  | .global g => .d (.c (.v (.pointer (some ⟨g, 0, none⟩))))
  | .func f => .d (.c (.v (.func (.func f) #[] #[])))

abbrev pInt (k : IntKind) (n : Int) : PV := .d (.c (.v (.int k n)))
abbrev pBool (b : Bool) : PV := .d (.c (.v (.bool b)))
abbrev pStr (s : ByteArray) : PV := .d (.c (.v (.string s)))

/-! ### operations without keys -/
def intBin (op : BinOp) (k : IntKind) (a : Int) (k' : IntKind) (b : Int) (K : PV → Prop) : Prop :=
  match op with
  | .shl => Need (0 ≤ b) (Wr k (a * 2 ^ min b.toNat k.bits) fun n => K (pInt k n))
  | .shr => Need (0 ≤ b) (K (pInt k (a.fdiv (2 ^ min b.toNat k.bits))))
  | _ =>
    match decide (k = k') with
    | false => False
    | true =>
      match op with
      | .add => Wr k (a + b) fun n => K (pInt k n)
      | .sub => Wr k (a - b) fun n => K (pInt k n)
      | .mul => Wr k (a * b) fun n => K (pInt k n)
      | .quo => Need (b ≠ 0) (Wr k (a.tdiv b) fun n => K (pInt k n))
      | .rem => Need (b ≠ 0) (K (pInt k (a.tmod b)))
      | .and => Wr k (BitVec.ofInt k.bits a &&& BitVec.ofInt k.bits b).toNat fun n => K (pInt k n)
      | .or => Wr k (BitVec.ofInt k.bits a ||| BitVec.ofInt k.bits b).toNat fun n => K (pInt k n)
      | .xor => Wr k (BitVec.ofInt k.bits a ^^^ BitVec.ofInt k.bits b).toNat fun n => K (pInt k n)
      | .andNot => Wr k (BitVec.ofInt k.bits a &&& ~~~ BitVec.ofInt k.bits b).toNat fun n => K (pInt k n)
      | .eql => K (pBool (decide (a = b)))
      | .neq => K (pBool (decide (a ≠ b)))
      | .lss => K (pBool (decide (a < b)))
      | .leq => K (pBool (decide (a ≤ b)))
      | .gtr => K (pBool (decide (b < a)))
      | .geq => K (pBool (decide (b ≤ a)))
      | _ => False
def strBin (op : BinOp) (a b : ByteArray) (K : PV → Prop) : Prop :=
  match op with
  | .add => Need (a.size + b.size ≤ 9223372036854775807) (K (pStr (a ++ b)))
  | .eql => K (pBool (decide (a = b)))
  | .neq => K (pBool (decide (a ≠ b)))
  | .lss => K (pBool (Op.bytesLess a.toList b.toList))
  | .leq => K (pBool (Op.bytesLess a.toList b.toList || decide (a = b)))
  | .gtr => K (pBool (!(Op.bytesLess a.toList b.toList || decide (a = b))))
  | .geq => K (pBool (!Op.bytesLess a.toList b.toList))
  | _ => False
def boolBin (P : Program) (op : BinOp) (t : TypeId) (a b : Bool) (K : PV → Prop) : Prop :=
  match P.underlying t with
  | some .bool =>
    match op with
    | .eql => K (pBool (a == b))
    | .neq => K (pBool (!(a == b)))
    | _ => False
  | _ => False
def isRow (P : Program) (t : TypeId) (K : Option Nat → Prop) : Prop :=
  match P.underlying t with
  | some (.struct _) => match P.info? t with
    | some i => K (some i.size)
    | none => False
  | some (.array _ _) => match P.info? t with
    | some i => K (some i.size)
    | none => False
  | some _ => K none
  | none => False
/-- a variable of type t, read out of cells -/
def readP (P : Program) (t : TypeId) (l : List D) (K : PV → Prop) : Prop :=
  isRow P t fun s => match s with
    | some n => match Nat.ble n l.length with
      | true => forceL (l.take n) fun xs => K (.agg xs)
      | false => False
    | none => match l with
      | x :: _ => D.force x fun y => K (.d y)
      | [] => False
/-- values of a type that can be compared: of basic kinds, or records of such -/
def eqFs (P : Program) (eq : TypeId → PV → PV → (Bool → Prop) → Prop) (l m : List D) : List Field → (Bool → Prop) → Prop
  | [], K => K true
  | f :: fs, K => Need (f.name ≠ "_") (readP P f.type (l.drop f.offset) fun a => readP P f.type (m.drop f.offset) fun b => eq f.type a b fun r => eqFs P eq l m fs fun r' => K (r && r'))
def eqV (P : Program) : Nat → TypeId → PV → PV → (Bool → Prop) → Prop
  | 0, _, _, _, _ => False
  | d + 1, t, x, y, K => match P.underlying t with
    | some (.int _) => match x, y with
      | .d (.c (.v (.int k a))), .d (.c (.v (.int k' b))) => match decide (k = k') with
        | true => K (decide (a = b))
        | false => False
      | _, _ => False
    | some .string => match x, y with
      | .d (.c (.v (.string a))), .d (.c (.v (.string b))) => K (decide (a = b))
      | _, _ => False
    | some .bool => match x, y with
      | .d (.c (.v (.bool a))), .d (.c (.v (.bool b))) => K (a == b)
      | _, _ => False
    | some (.struct fs) => match x, y with
      | .agg l, .agg m => Need (P.stoodInHeld t = false) (eqFs P (eqV P d) l m fs.toList K)
      | _, _ => False
    | _ => False
/-- is a slice nil? -/
def slNil (x : PV) (K : Bool → Prop) : Prop := match x with
  | .d (.c (.sl _ l)) => Need (l ≠ []) (K false)
  | .d (.app _ _ _ l) => Need (l ≠ []) (K false)
  | .d (.arr _ _ _ _ n) => Need (n ≠ 0) (K false)
  | .d (.c (.v (.slice (some _) _ _))) => K false
  | .d (.c (.v (.slice none _ _))) => K true
  | _ => False
def eqP (P : Program) (t : TypeId) (x y : PV) (K : Bool → Prop) : Prop :=
  match x, y with
  | .agg l, .agg m => Need (P.eqGuardType P.depth t = false) (eqV P 8 t (.agg l) (.agg m) K)
  | .d (.ptr _ _), .d (.c (.v (.pointer none))) => match P.underlying t with
    | some (.pointer _) => K false
    | _ => False
  | .d (.c (.v (.pointer none))), .d (.c (.v (.pointer none))) => match P.underlying t with
    | some (.pointer _) => K true
    | _ => False
  | .d (.ptr k o), .d (.ptr k' o') => match P.underlying t with
    | some (.pointer te) => match P.info? te, Nat.beq k k', Nat.beq o o' with
      | some _, true, true => K true
      | _, _, _ => False
    | _ => False
  | .d (.clo _ _ _), .d (.c (.v .nilFunc)) => match P.underlying t with
    | some (.func _ _ _) => K false
    | _ => False
  | .d (.c (.v .nilFunc)), .d (.c (.v .nilFunc)) => match P.underlying t with
    | some (.func _ _ _) => K true
    | _ => False
  | .d (.c (.v (.func _ _ _))), .d (.c (.v .nilFunc)) => match P.underlying t with
    | some (.func _ _ _) => K false
    | _ => False
  | x, .d (.c (.v (.slice none 0 0))) => match P.underlying t with
    | some (.slice _) => slNil x K
    | _ => False
  | _, _ => False
def binP (P : Program) (op : BinOp) (t : TypeId) (x y : PV) (K : PV → Prop) : Prop :=
  match x, y with
  | .d (.c (.v (.int k a))), .d (.c (.v (.int k' b))) => intBin op k a k' b K
  | .d (.c (.v (.string a))), .d (.c (.v (.string b))) => strBin op a b K
  | .d (.c (.v (.bool a))), .d (.c (.v (.bool b))) => boolBin P op t a b K
  | x, y => match op with
    | .eql => eqP P t x y fun b => K (pBool b)
    | .neq => eqP P t x y fun b => K (pBool (!b))
    | _ => False
/-- an interface value beside nil -/
def nilIfP (P : Program) (op : BinOp) (t : TypeId) (x : PV) (K : PV → Prop) : Prop := match P.underlying t with
  | some (.interface _) => match x with
    | .d (.c (.v (.iface _ _))) => match op with
      | .eql => K (pBool false)
      | .neq => K (pBool true)
      | _ => False
    | .d (.c (.v .nilIface)) => match op with
      | .eql => K (pBool true)
      | .neq => K (pBool false)
      | _ => False
    | _ => False
  | _ => False
def unP (op : UnOp) (x : PV) (K : PV → Prop) : Prop :=
  match op, x with
  | .not, .d (.c (.v (.bool b))) => K (pBool (!b))
  | .neg, .d (.c (.v (.int k n))) => Wr k (0 - n) fun m => K (pInt k m)
  | _, _ => False
def convP (P : Program) (src dst : TypeId) (x : PV) (K : PV → Prop) : Prop :=
  match P.underlying dst with
  | some (.int k) => match P.underlying src, x with
    | some _, .d (.c (.v (.int _ n))) => Wr k n fun m => K (pInt k m)
    | _, _ => False
  | some .string => match P.underlying src with
    | some .string => match x with
      | .d (.c (.v (.string s))) => K (pStr s)
      | _ => False
    | some (.slice e) => match P.underlying e with
      | some (.int .u8) => PV.rows x fun l => Bytes l fun bs => K (pStr ⟨bs.toArray⟩)
      | _ => False
    | _ => False
  | _ => False
/-- a slice type's elements: type, cells -/
def tySlice (P : Program) (t : TypeId) (K : TypeId → TypeInfo → Prop) : Prop :=
  match P.underlying t with
  | some (.slice e) => match P.info? e with
    | some i => K e i
    | none => False
  | _ => False
def bound (x : Option PV) (d : Int) (K : Int → Prop) : Prop := match x with
  | none => K d
  | some (.d (.c (.v (.int _ n)))) => K n
  | _ => False
def sliceP (P : Program) (t : TypeId) (x : PV) (lo hi : Option PV) (K : PV → Prop) : Prop :=
  match x with
  | .d (.c (.v (.string s))) => match P.underlying t with
    | some .string => bound lo 0 fun l => bound hi s.size fun h => Need (0 ≤ l ∧ l ≤ h ∧ h ≤ s.size) (K (pStr (s.extract l.toNat h.toNat)))
    | _ => False
  | .d (.c (.sl sz rows)) => tySlice P t fun _ i => match Nat.beq i.size sz with
    | true => bound lo 0 fun l => bound hi rows.length fun h => Need (0 ≤ l ∧ l ≤ h ∧ h ≤ rows.length) (K (.d (.c (.sl sz ((rows.drop l.toNat).take (h.toNat - l.toNat))))))
    | false => False
  | .d (.app _ _ sz rows) => tySlice P t fun _ i => match Nat.beq i.size sz with
    | true => bound lo 0 fun l => bound hi rows.length fun h => Need (0 ≤ l ∧ l ≤ h ∧ h ≤ rows.length) (K (.d (.c (.sl sz ((rows.drop l.toNat).take (h.toNat - l.toNat))))))
    | false => False
  | .d (.arr k e sz lw n) => tySlice P t fun _ i => match Nat.beq i.size sz with
    | true => bound lo 0 fun l => bound hi n fun h => Need (0 ≤ l ∧ l ≤ h ∧ h ≤ n) (K (.d (.arr k e sz (lw + l.toNat) (h.toNat - l.toNat))))
    | false => False
  | _ => False
def indexP (P : Program) (t : TypeId) (x i : PV) (K : PV → Prop) : Prop :=
  match x, i with
  | .d (.c (.v (.string s))), .d (.c (.v (.int _ n))) => match P.underlying t with
    | some .string => SIdx s n fun b => K (pInt .u8 b)
    | _ => False
  | .agg l, .d (.c (.v (.int _ n))) => match P.underlying t with
    | some (.array len el) => match P.info? el, Nat.beq l.length len with
      | some i, true => match Nat.beq i.size 1, P.underlying el with
        | true, some (.struct _) => False
        | true, some (.array _ _) => False
        | true, some _ => DIdx l n fun x => K (.d x)
        | _, _ => False
      | _, _ => False
    | _ => False
  | _, _ => False
def idxAddrP (P : Program) (t : TypeId) (x i : PV) (K : PV → Prop) : Prop :=
  match i with
  | .d (.c (.v (.int _ n))) => match x with
    | .d (.c (.sl sz rows)) => tySlice P t fun _ i => match Nat.beq i.size sz with
      | true => Idx rows n fun r => K (.d (.c (.ro r)))
      | false => False
    | .d (.app _ _ sz rows) => tySlice P t fun _ i => match Nat.beq i.size sz with
      | true => Idx rows n fun r => K (.d (.c (.ro r)))
      | false => False
    | .d (.arr k _ sz lo m) => tySlice P t fun _ i => match Nat.beq i.size sz with
      | true => Need (0 ≤ n ∧ n < m) (K (.d (.elt k sz (lo + n.toNat) 0)))
      | false => False
    | _ => False
  | _ => False
def fieldOf (P : Program) (s : TypeId) (f : Nat) (K : Nat → TypeId → Nat → Prop) : Prop :=
  match P.underlying s with
  | some (.struct fs) => match fs[f]? with
    | some fd => match P.info? fd.type with
      | some i => match Nat.beq i.size 0 with
        | true => False
        | false => K fd.offset fd.type i.size
      | none => False
    | none => False
  | _ => False
def fieldAddrP (P : Program) (s : TypeId) (x : PV) (f : Nat) (K : PV → Prop) : Prop :=
  match x with
  | .d (.c (.ro l)) => fieldOf P s f fun off _ _ => match Nat.ble off l.length with
    | true => K (.d (.c (.ro (l.drop off))))
    | false => False
  | .d (.ptr k o) => fieldOf P s f fun off _ _ => K (.d (.ptr k (o + off)))
  | .d (.elt k sz i o) => fieldOf P s f fun off _ _ => K (.d (.elt k sz i (o + off)))
  | _ => False
def fieldP (P : Program) (s : TypeId) (x : PV) (f : Nat) (K : PV → Prop) : Prop :=
  match x with
  | .agg l => fieldOf P s f fun off t _ => readP P t (l.drop off) K
  | _ => False
def extractP (x : PV) (i : Nat) (K : PV → Prop) : Prop :=
  match x with
  | .tup l => match l[i]? with
    | some v => PV.force v K
    | none => False
  | _ => False
def nilCheckP (x : PV) (K : PV → Prop) : Prop :=
  match x with
  | .d (.c (.ro l)) => K (.d (.c (.ro l)))
  | .d (.ptr k o) => K (.d (.ptr k o))
  | .d (.elt k sz i o) => K (.d (.elt k sz i o))
  | _ => False
def pickP (c a b : PV) (K : PV → Prop) : Prop :=
  match c with
  | .d (.c (.v (.bool t))) => BCase t (PV.force a K) (PV.force b K)
  | _ => False
def lenP (P : Program) (t : TypeId) (x : PV) (K : PV → Prop) : Prop :=
  match x with
  | .d (.c (.v (.string s))) => match P.underlying t with
    | some .string => K (pInt .i64 s.size)
    | _ => False
  | .d (.c (.sl _ l)) => match P.underlying t with
    | some (.slice _) => K (pInt .i64 l.length)
    | _ => False
  | .d (.app _ _ _ l) => match P.underlying t with
    | some (.slice _) => K (pInt .i64 l.length)
    | _ => False
  | .d (.arr _ _ _ _ n) => match P.underlying t with
    | some (.slice _) => K (pInt .i64 n)
    | _ => False
  | .d (.c (.v (.slice none 0 0))) => match P.underlying t with
    | some (.slice _) => K (pInt .i64 0)
    | _ => False
  | _ => False

/-! ### operations with keys -/
/-- cells put into the midst of others -/
def setCs (l : List D) (off : Nat) (cs : List D) : List D := l.take off ++ cs ++ l.drop (off + cs.length)
def loadP (P : Program) (h : Hp) (t : TypeId) (x : PV) (K : PV → Rf → Prop) : Prop :=
  match x with
  | .d (.c (.ro l)) => readP P t (l.map D.c) fun v => K v []
  | .d (.ptr k o) => match h k with
    | some (.box bt l) => readP P t (l.drop o) fun v => K v [(k, .box bt l)]
    | _ => False
  | .d (.elt k sz i o) => match h k with
    | some (.arr e s rows) => match Nat.beq s sz with
      | true => Row rows i fun r => readP P t ((r.drop o).map D.c) fun v => K v [(k, .arr e s rows)]
      | false => False
    | some (.darr e s rows) => match Nat.beq s sz with
      | true => Row rows i fun r => readP P t (r.drop o) fun v => K v [(k, .darr e s rows)]
      | false => False
    | _ => False
  | _ => False
def storeP (P : Program) (h : Hp) (t : TypeId) (x y : PV) (K : OpK) : Prop :=
  match x with
  | .d (.ptr k o) => match h k with
    | some (.box bt l) => PV.cells y fun cs => match P.info? t with
      | some i => match Nat.beq i.size cs.length, Nat.ble (o + cs.length) l.length with
        | true, true => forceL (setCs l o cs) fun l' => K (.tup []) [(k, some (.box bt l'))] [(k, .box bt l)]
        | _, _ => False
      | none => False
    | some (.arr e s rows) => match Nat.beq o 0, Nat.beq s 1 with
      | true, true => PV.cells y fun cs => closeL cs fun ds => match P.info? t with
        | some ti => match Nat.beq ti.size ds.length, Nat.beq rows.length ds.length with
          | true, true => forceL (ds.map fun c => [c]) fun rs => K (.tup []) [(k, some (.arr e s rs))] [(k, .arr e s rows)]
          | _, _ => False
        | none => False
      | _, _ => False
    | _ => False
  | .d (.elt k sz i o) => match h k with
    | some (.arr e s rows) => match Nat.beq s sz with
      | true => Row rows i fun r => PV.cells y fun cs => closeL cs fun ds => match P.info? t with
        | some ti => match Nat.beq ti.size ds.length, Nat.ble (o + ds.length) r.length with
          | true, true => K (.tup []) [(k, some (.arr e s (rows.set i (r.take o ++ ds ++ r.drop (o + ds.length)))))] [(k, .arr e s rows)]
          | _, _ => False
        | none => False
      | false => False
    | some (.darr e s rows) => match Nat.beq s sz with
      | true => Row rows i fun r => PV.cells y fun cs => match P.info? t with
        | some ti => match Nat.beq ti.size cs.length, Nat.ble (o + cs.length) r.length with
          | true, true => K (.tup []) [(k, some (.darr e s (rows.set i (setCs r o cs))))] [(k, .darr e s rows)]
          | _, _ => False
        | none => False
      | false => False
    | _ => False
  | _ => False
def zeroCells (P : Program) (t : TypeId) (K : List D → Prop) : Prop :=
  match P.info? t with
  | some i => match i.zero with
    | some z => match z.cells.toList.all Value.oneCell' with
      | true => forceL (z.cells.toList.map fun x => D.c (C.v x)) K
      | false => False
    | none => False
  | none => False
def allocP (P : Program) (key : Nat) (t : TypeId) (K : OpK) : Prop :=
  zeroCells P t fun l => K (.d (.ptr key 0)) [(key, some (.box t l))] []
def boxP (key t : Nat) (x : PV) (K : OpK) : Prop :=
  PV.cells x fun l => K (.d (.ptr key 0)) [(key, some (.box t l))] []
/-- where a struct's fields lie, and how many cells each has -/
def placesOf (P : Program) : List Field → (List (Nat × Nat) → Prop) → Prop
  | [], K => K []
  | f :: fs, K => match P.info? f.type with
    | some i => placesOf P fs fun ps => K ((f.offset, i.size) :: ps)
    | none => False
/-- a struct's fields, put one by one into its cells -/
def fillP (places : List (Nat × Nat)) (e : Operand → PV) : List (Nat × Operand) → List D → (List D → Prop) → Prop
  | [], l, K => K l
  | (i, x) :: ps, l, K => match places[i]? with
    | some (off, sz) => PV.cells (e x) fun cs => match Nat.beq cs.length sz, Nat.ble (off + cs.length) l.length with
        | true, true => forceL (setCs l off cs) fun l' => fillP places e ps l' K
        | _, _ => False
    | none => False
/-- an array's elements, put one by one into its cells -/
def fillA (sz : Nat) (e : Operand → PV) : List (Nat × Operand) → List D → (List D → Prop) → Prop
  | [], l, K => K l
  | (i, x) :: ps, l, K => PV.cells (e x) fun cs => match Nat.beq cs.length sz, Nat.ble (i * sz + cs.length) l.length with
        | true, true => forceL (setCs l (i * sz) cs) fun l' => fillA sz e ps l' K
        | _, _ => False
def buildP (P : Program) (t : TypeId) (parts : List (Nat × Operand)) (e : Operand → PV) (K : PV → Prop) : Prop :=
  match P.underlying t with
  | some (.array _ el) => match P.info? el with
    | some ie => zeroCells P t fun z => fillA ie.size e parts z fun l => K (.agg l)
    | none => False
  | some (.struct fs) => zeroCells P t fun z => placesOf P fs.toList fun places => fillP places e parts z fun l => K (.agg l)
  | _ => False
def rowsOf (sz : Nat) (e : Operand → PV) : Nat → List (Nat × Operand) → (List (List C) → Prop) → Prop
  | _, [], K => K []
  | n, (i, x) :: ps, K => match Nat.beq i n with
    | true => PV.cells (e x) fun cs => closeL cs fun ds => match Nat.beq ds.length sz with
      | true => rowsOf sz e (n + 1) ps fun rs => K (ds :: rs)
      | false => False
    | false => False
/-- an empty literal: to be appended to; or without room, so that what is appended to it may be written -/
inductive EmpOr (key : Nat) (A B : Prop) : Prop
  | app (h : A)
  | emp (h : B)
def buildSliceP (P : Program) (key : Nat) (t : TypeId) (n : Nat) (parts : List (Nat × Operand)) (e : Operand → PV) (K : OpK) : Prop :=
  tySlice P t fun el i => match i.size with
    | 0 => False
    | sz + 1 => match Nat.beq parts.length n, Nat.ble (n * (sz + 1)) 16777216, i.zero.isSome with
      | true, true, true => rowsOf (sz + 1) e 0 parts fun rs => match n with
        | 0 => EmpOr key (K (.d (.app key el (sz + 1) rs)) [(key, some (.tail el (sz + 1)))] []) (K (.d .emp) [(key, some (.tail el (sz + 1)))] [])
        | _ + 1 => K (.d (.app key el (sz + 1) rs)) [(key, some (.tail el (sz + 1)))] []
      | _, _, _ => False
/-- what is asked of an element type -/
def elemOk (i : TypeInfo) : Bool := match i.zero with
  | some z => Nat.beq z.cells.size i.size && Nat.ble 1 i.size && Nat.ble 1 i.bytes
  | none => false
def appendP (P : Program) (h : Hp) (key : Nat) (t t2 : TypeId) (s x : PV) (K : OpK) : Prop :=
  match Nat.beq t t2 with
  | true => tySlice P t fun el i => match elemOk i with
    | true => PV.rowsOf x i.size fun m => match s with
      | .d (.app k e sz l) => match Nat.beq e el, Nat.beq sz i.size, Nat.beq k key, h k with
        | true, true, false, some (.tail e2 sz2) => match Nat.beq sz2 sz, Nat.beq e2 e with
          | true, true => Need ((l.length + m.length) * i.bytes ≤ 140737488355328) (K (.d (.app key e sz (l ++ m))) [(k, none), (key, some (.tail e sz))] [(k, .tail e sz)])
          | _, _ => False
        | _, _, _, _ => False
      | .d (.c (.v (.slice none 0 0))) => Need (m.length * i.bytes ≤ 140737488355328) (K (.d (.app key el i.size m)) [(key, some (.tail el i.size))] [])
      | .d .emp => Need (m.length * i.bytes ≤ 140737488355328) (K (.d (.arr key el i.size 0 m.length)) [(key, some (.arr el i.size m))] [])
      | .d (.arr k e sz lo n) => match Nat.beq e el, Nat.beq sz i.size, Nat.beq k key, Nat.beq lo 0 with
        | true, true, false, true => match h k with
          | some (.arr e2 sz2 rows) => match Nat.beq sz2 sz, Nat.beq e2 e with
            | true, true => Need (n ≤ rows.length) (Need ((n + m.length) * i.bytes ≤ 140737488355328) (K (.d (.arr key e sz 0 (n + m.length))) [(k, none), (key, some (.arr e sz (rows.take n ++ m)))] [(k, .arr e sz rows)]))
            | _, _ => False
          | some (.darr e2 sz2 rows) => match Nat.beq sz2 sz, Nat.beq e2 e with
            | true, true => Need (n ≤ rows.length) (Need ((n + m.length) * i.bytes ≤ 140737488355328) (K (.d (.arr key e sz 0 (n + m.length))) [(k, none), (key, some (.darr e sz (rows.take n ++ m.map (List.map D.c))))] [(k, .darr e sz rows)]))
            | _, _ => False
          | _ => False
        | _, _, _, _ => False
      | _ => False
    | false => False
  | false => False

/-- n / c, read off where n is c (Nat.div is not reckoned where n holds a name) -/
def nObj (n c : Nat) : Nat := match Nat.beq n c, Nat.beq c 0 with | true, false => 1 | _, _ => n / c
theorem nObj_eq (n c : Nat) : nObj n c = n / c := by
  unfold nObj; split
  · rename_i h1 h2
    rw [Nat.eq_of_beq_eq_true h1, Nat.div_self (Nat.pos_of_ne_zero fun e => by rw [e] at h2; cases h2)]
  · rfl
/-- conversions: of addresses too -/
def convP2 (P : Program) (h : Hp) (src dst : TypeId) (x : PV) (K : OpK) : Prop :=
  match x with
  | .d (.ptr k o) => match h k with
    | some (.box T l) => match P.underlying src, P.underlying dst with
      | some (.pointer t), some .unsafePointer => match P.info? t with
        | some i => match Nat.beq i.size 0, Nat.blt o l.length with
          | false, true => K (.d (.ptr k o)) [] [(k, .box T l)]
          | _, _ => False
        | none => False
      | some .unsafePointer, some (.pointer u) => match P.info? u, liesAt P P.depth T (nObj l.length (P.cellsOf T)) o u 1 with
        | some _, true => K (.d (.ptr k o)) [] [(k, .box T l)]
        | _, _ => False
      | _, _ => False
    | _ => False
  | .d (.c (.v (.string s))) => match P.underlying src, P.underlying dst with
    | some .string, some .string => K (pStr s) [] []
    | some .string, some (.slice e) => match P.underlying e with
      | some (.int .u8) => Need (s.size ≤ 9223372036854775807) (K (.d (.c (.sl 1 (s.data.toList.map fun b => [C.v (.int .u8 (b.toNat : Int))])))) [] [])
      | _ => False
    | _, _ => False
  | x => convP P src dst x fun v => K v [] []
/-- a slice's elements: their address; a text out of it -/
def sdataP (P : Program) (ty : TypeId) (x : PV) (K : PV → Prop) : Prop :=
  match P.underlying ty, x with
  | some (.pointer _), .d (.app k e 1 l) => K (.d (.data k e l))
  | some (.pointer _), .d (.c (.v (.slice none 0 0))) => K (.d (.c (.v (.pointer none))))
  | _, _ => False
def ustrP (P : Program) (h : Hp) (pt : TypeId) (x n : PV) (K : OpK) : Prop :=
  match x, n with
  | .d (.data k e l), .d (.c (.v (.int .i64 n))) => match P.underlying pt, h k with
    | some (.pointer pe), some (.tail e2 sz) => match Nat.beq pe e, Nat.beq (P.cellsOf e) 1 with
      | true, true => Need (n = l.length) (Bytes l fun bs => K (pStr ⟨bs.toArray⟩) [(k, none)] [(k, .tail e2 sz)])
      | _, _ => False
    | _, _ => False
  | .d (.c (.v (.pointer none))), .d (.c (.v (.int .i64 n))) => Need (n = 0) (K (pStr .empty) [] [])
  | _, _ => False
/-- a text's bytes, appended -/
def appStrP (P : Program) (h : Hp) (key : Nat) (t t2 : TypeId) (s : PV) (x : ByteArray) (K : OpK) : Prop :=
  match P.underlying t2 with
  | some .string => tySlice P t fun el i => match elemOk i, Nat.beq i.size 1 with
    | true, true => match s with
      | .d (.app k e sz l) => match Nat.beq e el, Nat.beq sz 1, Nat.beq k key, h k with
        | true, true, false, some (.tail e2 sz2) => match Nat.beq sz2 sz, Nat.beq e2 e with
          | true, true => Need ((l.length + x.size) * i.bytes ≤ 140737488355328) (K (.d (.app key e sz (l ++ x.data.toList.map fun b => [C.v (.int .u8 (b.toNat : Int))]))) [(k, none), (key, some (.tail e sz))] [(k, .tail e sz)])
          | _, _ => False
        | _, _, _, _ => False
      | .d (.c (.v (.slice none 0 0))) => Need (x.size * i.bytes ≤ 140737488355328) (K (.d (.app key el 1 (x.data.toList.map fun b => [C.v (.int .u8 (b.toNat : Int))]))) [(key, some (.tail el 1))] [])
      | _ => False
    | _, _ => False
  | _ => False
def minmaxP (mx : Bool) (x y : PV) (K : PV → Prop) : Prop :=
  match x, y with
  | .d (.c (.v (.int k a))), .d (.c (.v (.int k' b))) => match decide (k = k') with
    | true => match mx with
      | true => K (pInt k (if a < b then b else a))
      | false => K (pInt k (if b < a then b else a))
    | false => False
  | _, _ => False
/-- all of the cells are plain values -/
def plainDs : List D → Option (List Value)
  | [] => some []
  | .c (.v x) :: l => match plainDs l with
    | some r => some (x :: r)
    | none => none
  | _ :: _ => none
def isIface (P : Program) (t : TypeId) : Bool := match P.underlying t with
  | some (.interface _) => true
  | some _ => false
  | none => true
def ifaceP (P : Program) (t : TypeId) (x : PV) (K : PV → Prop) : Prop :=
  match isIface P t with
  | true => False
  | false => match x with
    | .d y => D.close y fun c => match c with
      | .v v => K (.d (.c (.v (.iface t v))))
      | c => K (.d (.c (.ifc1 t c)))
    | .agg l => match plainDs l with
      | some vs => K (.d (.c (.v (.iface t (.agg vs.toArray)))))
      | none => closeL l fun cs => K (.d (.c (.ifc t cs)))
    | _ => False
/-- what an interface value holds -/
def heldP (x : PV) (K : TypeId → PV → Prop) : Prop := match x with
  | .d (.c (.v (.iface t (.agg vs)))) => match vs.toList.all Value.oneCell' with
    | true => K t (.agg (vs.toList.map fun v => .c (.v v)))
    | false => False
  | .d (.c (.v (.iface t v))) => match v.oneCell' with
    | true => K t (.d (.c (.v v)))
    | false => False
  | .d (.c (.ifc t l)) => K t (.agg (l.map D.c))
  | .d (.c (.ifc1 t c)) => K t (.d (.c c))
  | _ => False
def assertP (P : Program) (x : PV) (asserted : TypeId) (commaOk : Bool) (K : PV → Prop) : Prop :=
  match isIface P asserted with
  | true => False
  | false => heldP x fun t v => match Nat.beq t asserted, commaOk with
    | true, true => K (.tup [v, pBool true])
    | true, false => K v
    | false, true => match P.info? asserted with
      | some i => match i.zero with
        | some z => match z.oneCell' with
          | true => K (.tup [.d (.c (.v z)), pBool false])
          | false => match z with
            | .agg vs => match vs.toList.all Value.oneCell' with
              | true => K (.tup [.agg (vs.toList.map fun v => .c (.v v)), pBool false])
              | false => False
            | _ => False
        | none => False
      | none => False
    | false, false => False
def makeP (P : Program) (key : Nat) (t : TypeId) (n c : PV) (K : OpK) : Prop :=
  match n, c with
  | .d (.c (.v (.int _ n))), .d (.c (.v (.int _ c))) => tySlice P t fun el i => match i.zero with
    | some z => match z.cells.toList.all Value.oneCell', Nat.beq z.cells.size i.size, Nat.beq i.size 0 with
      | true, true, false => Need (0 ≤ n ∧ c = n ∧ (i.bytes : Int) * n ≤ 281474976710656 ∧ n ≤ 9223372036854775807) (K (.d (.arr key el i.size 0 n.toNat)) [(key, some (.arr el i.size (List.replicate n.toNat (z.cells.toList.map C.v))))] [])
      | _, _, _ => False
    | none => False
  | _, _ => False

/-! ### arrays in variables -/
/-- an array type's length and elements -/
def tyArr (P : Program) (t : TypeId) (K : Nat → TypeId → TypeInfo → Prop) : Prop :=
  match P.underlying t with
  | some (.array n e) => match P.info? e with
    | some i => K n e i
    | none => False
  | _ => False
def isArr (P : Program) (t : TypeId) : Bool := match P.underlying t with
  | some (.array _ _) => true
  | _ => false
def allocP2 (P : Program) (key : Nat) (t : TypeId) (K : OpK) : Prop := match isArr P t with
  | false => allocP P key t K
  | true => tyArr P t fun n _ i => match P.info? t, i.zero with
    | some it, some z => match it.zero, z.cells.toList.all Value.oneCell', Nat.beq z.cells.size i.size, Nat.beq i.size 0 with
      | some zt, true, true, false => Need (zt.cells.toList = (List.replicate n z.cells.toList).flatten) (forceL (z.cells.toList.map C.v) fun zr => K (.d (.ptr key 0)) [(key, some (.arr t i.size (List.replicate n zr)))] [])
      | _, _, _, _ => False
    | _, _ => False
/-- an array of elements of one cell, put into a variable -/
def boxP2 (P : Program) (key t : Nat) (x : PV) (K : OpK) : Prop := match isArr P t with
  | false => boxP key t x K
  | true => tyArr P t fun _ _ i => match Nat.beq i.size 1 with
    | true => PV.cells x fun l => closeL l fun cs => forceL (cs.map fun c => [c]) fun rs => K (.d (.ptr key 0)) [(key, some (.arr t 1 rs))] []
    | false => False
def sliceP2 (P : Program) (h : Hp) (t : TypeId) (x : PV) (lo hi : Option PV) (K : OpK) : Prop := match x with
  | .d (.ptr k o) => match Nat.beq o 0, h k with
    | true, some (.arr e s rows) => tyArr P t fun n _ i => match Nat.beq i.size s && Nat.ble n 16777216 with
      | true => bound lo 0 fun l => bound hi n fun hh => Need (rows.length = n ∧ 0 ≤ l ∧ l ≤ hh ∧ hh ≤ n) (K (.d (.arr k e s l.toNat (hh.toNat - l.toNat))) [] [(k, .arr e s rows)])
      | false => False
    | _, _ => False
  | x => sliceP P t x lo hi fun v => K v [] []
def idxAddrP2 (P : Program) (h : Hp) (t : TypeId) (x i : PV) (K : OpK) : Prop := match x with
  | .d (.ptr k o) => match i with
    | .d (.c (.v (.int _ n))) => match Nat.beq o 0, h k with
      | true, some (.arr e s rows) => tyArr P t fun m _ i => match Nat.beq i.size s with
        | true => Need (0 ≤ n ∧ n < m) (K (.d (.elt k s n.toNat 0)) [] [(k, .arr e s rows)])
        | false => False
      | _, _ => False
    | _ => False
  | x => idxAddrP P t x i fun v => K v [] []
/-- a text of an array's bytes -/
def arrStrP (P : Program) (h : Hp) (src dst : TypeId) (k sz lo n : Nat) (K : OpK) : Prop := match h k with
  | some (.arr e s rows) => match P.underlying src, P.underlying dst, Nat.beq s 1, Nat.beq sz 1 with
    | some (.slice el), some .string, true, true => match P.underlying el with
      | some (.int .u8) => Need (lo + n ≤ rows.length) (Bytes ((rows.drop lo).take n) fun bs => K (pStr ⟨bs.toArray⟩) [] [(k, .arr e s rows)])
      | _ => False
    | _, _, _, _ => False
  | _ => False
def convP3 (P : Program) (h : Hp) (src dst : TypeId) (x : PV) (K : OpK) : Prop := match x with
  | .d (.arr k _ sz lo n) => arrStrP P h src dst k sz lo n K
  | x => convP2 P h src dst x K
/-- a text's bytes, copied into an array -/
def copyP (P : Program) (h : Hp) (td _ts : TypeId) (x y : PV) (K : OpK) : Prop := match x, y with
  | .d (.arr k _ sz lo n), .d (.c (.v (.string z))) => match h k with
    | some (.arr e s rows) => tySlice P td fun _ i => match Nat.beq i.size 1, Nat.beq s 1, Nat.beq sz 1 with
      | true, true, true => Need (lo + n ≤ rows.length) (K (pInt .i64 (min z.size n : Nat)) [(k, some (.arr e s (rows.take lo ++ ((z.data.toList.take n).map fun b => [C.v (.int .u8 (b.toNat : Int))]) ++ rows.drop (lo + min z.size n))))] [(k, .arr e s rows)])
      | _, _, _ => False
    | _ => False
  | _, _ => False

/-! ### maps of the call's own; slices cut to nothing -/
def mpGet : List (ByteArray × Value) → ByteArray → Option Value
  | [], _ => none
  | (k, v) :: l, s => bif decide (s = k) then some v else mpGet l s
def mpPut : List (ByteArray × Value) → ByteArray → Value → List (ByteArray × Value)
  | [], s, x => [(s, x)]
  | (k, v) :: l, s, x => bif decide (s = k) then (s, x) :: l else (k, v) :: mpPut l s x
/-- what a look into a map shows -/
inductive MGet (l : List (ByteArray × Value)) (s : ByteArray) (A : Value → Prop) (B : Prop) : Prop
  | mk (hit : ∀ v, mpGet l s = some v → A v) (miss : mpGet l s = none → B)
def isStr (P : Program) (t : TypeId) : Bool := match P.underlying t with
  | some .string => true
  | _ => false
def makeMapP (key : Nat) (K : OpK) : Prop := K (.d (.mp key)) [(key, some (.mp []))] []
/-- a plain value as the machine's -/
def valPV : Value → PV
  | .agg cs => .agg (cs.toList.map fun x => .c (.v x))
  | x => .d (.c (.v x))
def plainV : Value → Bool
  | .agg cs => cs.toList.all Value.oneCell'
  | .tuple _ => false
  | x => x.oneCell'
def lookupP (P : Program) (h : Hp) (t : TypeId) (x i : PV) (ok : Bool) (K : OpK) : Prop := match x, i with
  | .d (.mp k), .d (.c (.v (.string s))) => match h k, P.underlying t with
    | some (.mp l), some (.map kt vt) => match isStr P kt, P.info? vt with
      | true, some ti => match ti.zero with
        | some z => Need (plainV z = true ∧ ∀ p ∈ l, plainV p.2 = true) (match ok with
          | true => MGet l s (fun v => K (.tup [valPV v, pBool true]) [] [(k, .mp l)]) (K (.tup [valPV z, pBool false]) [] [(k, .mp l)])
          | false => MGet l s (fun v => K (valPV v) [] [(k, .mp l)]) (K (valPV z) [] [(k, .mp l)]))
        | none => False
      | _, _ => False
    | _, _ => False
  | _, _ => False
/-- a plain value out of the machine's -/
def pvVal (x : PV) (K : Value → Prop) : Prop := match x with
  | .d (.c (.v v)) => K v
  | .agg l => match plainDs l with
    | some vs => K (.agg vs.toArray)
    | none => False
  | _ => False
def mapPutP (P : Program) (h : Hp) (t : TypeId) (x i y : PV) (K : OpK) : Prop := match x, i with
  | .d (.mp k), .d (.c (.v (.string s))) => match h k, P.underlying t with
    | some (.mp l), some (.map kt _) => match isStr P kt with
      | true => pvVal y fun v => K (.tup []) [(k, some (.mp (mpPut l s v)))] [(k, .mp l)]
      | false => False
    | _, _ => False
  | _, _ => False
/-- s[:0:0] -/
def cutP (P : Program) (t : TypeId) (x : PV) (lo hi : Option PV) (mx : PV) (K : PV → Prop) : Prop := match lo, hi, mx with
  | none, some (.d (.c (.v (.int _ 0)))), .d (.c (.v (.int _ 0))) => tySlice P t fun _ _ => match x with
    | .d (.c (.sl _ _)) => K (.d .emp)
    | .d (.app _ _ _ _) => K (.d .emp)
    | .d (.c (.v (.slice none 0 0))) => K (.d .emp)
    | .d (.c (.v (.slice (some _) 0 _))) => K (.d .emp)
    | _ => False
  | _, _, _ => False

def dsOf : List PV → (List D → Prop) → Prop
  | [], K => K []
  | .d x :: r, K => D.force x fun y => dsOf r fun ys => K (y :: ys)
  | _ :: _, _ => False
def mapE (e : Operand → PV) : List Operand → (List PV → Prop) → Prop
  | [], K => K []
  | x :: xs, K => PV.force (e x) fun v => mapE e xs fun vs => K (v :: vs)
def pds (l : List D) : List PV := l.map PV.d
def callP (P : Program) (h : Hp) (key : Nat) (c : Call) (ty : TypeId) (e : Operand → PV) (K : OpK) (X : Value → Hp → Prop) : Prop :=
  match c.callee with
  | .builtin b => match b, c.args.toList, c.argTypes.toList with
    | .len, [x], [t] => lenP P t (e x) fun v => K v [] []
    | .append, [s, x], [t, t2] => match e x with
      | .d (.c (.v (.string z))) => appStrP P h key t t2 (e s) z K
      | y => appendP P h key t t2 (e s) y K
    | .unsafeSliceData, [x], [_] => sdataP P ty (e x) fun v => K v [] []
    | .unsafeString, [x, n], [pt, _] => ustrP P h pt (e x) (e n) K
    | .copy, [x, y], [td, ts] => copyP P h td ts (e x) (e y) K
    | .min, [x, y], _ => minmaxP false (e x) (e y) fun v => K v [] []
    | .max, [x, y], _ => minmaxP true (e x) (e y) fun v => K v [] []
    | _, _, _ => False
  | .value f => match e f with
    | .d (.c (.v (.func (.func g) first captured))) => match first.toList, captured.toList with
      | [], [] => mapE e c.args.toList fun ys => CallP P g ys h K X
      | _, _ => False
    | .d (.clo g a l) => mapE e c.args.toList fun ys => forceL (pds a ++ (ys ++ pds l)) fun zs => CallP P g zs h K X
    | _ => False
  | _ => False

def vcOp (P : Program) (key : Nat) (ty : TypeId) (o : Op) (e : Operand → PV) (h : Hp) (K : OpK) (X : Value → Hp → Prop) : Prop :=
  match o with
  | .move x => PV.force (e x) fun v => K v [] []
  | .assign x => PV.force (e x) fun v => K v [] []
  | .pick c a b => pickP (e c) (e a) (e b) fun v => K v [] []
  | .binOp op t x (.const .nilIface) _ => nilIfP P op t (e x) fun v => K v [] []
  | .binOp op t x y _ => binP P op t (e x) (e y) fun v => K v [] []
  | .unOp op _ x => unP op (e x) fun v => K v [] []
  | .convert s d x => convP3 P h s d (e x) K
  | .makeMap _ none => makeMapP key K
  | .lookup t x i ok => lookupP P h t (e x) (e i) ok K
  | .mapUpdate t m k x => mapPutP P h t (e m) (e k) (e x) K
  | .insert t m k x => mapPutP P h t (e m) (e k) (e x) K
  | .slice t x lo hi (some m) => cutP P t (e x) (lo.map e) (hi.map e) (e m) fun v => K v [] []
  | .slice t x lo hi none => sliceP2 P h t (e x) (lo.map e) (hi.map e) K
  | .index t x i => indexP P t (e x) (e i) fun v => K v [] []
  | .indexAddr t x i => idxAddrP2 P h t (e x) (e i) K
  | .fieldAddr s x f => fieldAddrP P s (e x) f fun v => K v [] []
  | .field s x f => fieldP P s (e x) f fun v => K v [] []
  | .extract x i => extractP (e x) i fun v => K v [] []
  | .nilCheck x => nilCheckP (e x) fun v => K v [] []
  | .load t x => loadP P h t (e x) fun v rf => K v [] rf
  | .store t x y => storeP P h t (e x) (e y) K
  | .alloc t => allocP2 P key t K
  | .box t x => boxP2 P key t (e x) K
  | .build t parts => buildP P t parts.toList e fun v => K v [] []
  | .buildSlice t n parts => buildSliceP P key t n parts.toList e K
  | .call c => callP P h key c ty e K X
  | .makeInterface t x => ifaceP P t (e x) fun v => K v [] []
  | .typeAssert x _ asserted ok => assertP P (e x) asserted ok fun v => K v [] []
  | .makeSlice t n c => makeP P key t (e n) (e c) K
  | .makeFunc (.func f) first captured => mapE e first.toList fun a => dsOf a fun a => mapE e captured.toList fun l => dsOf l fun l => K (.d (.clo f a l)) [] []
  | .panic x => match e x with
    | .d (.c (.v (.iface t v))) => X (.iface t v) h
    | _ => False
  | _ => False

end Go.Proofs.Ytohlkegmmbdlaaa.Pm
