/- What is handed in, opened as plain data of the plain machine. -/
import Derived.Test.YtohlkegmmbdlaaaPmBytes
import Derived.Test.YtohlkegmmbdlaaaReads
namespace Go.Proofs.Ytohlkegmmbdlaaa.Pm
open Go.RowKit K
set_option linter.unusedVariables false
set_option linter.unusedSimpArgs false

/-- what was there at the begin -/
abbrev FW (w : World) : Fzn := fun b _ => b < w.heap.size
def OpensC (P : Program) (t : TypeId) (sz : Nat) {α : Type} (enc : α → List C) (ok : α → Prop) : Prop :=
  Opens P t sz (fun w cs a => CsRep (FW w) w (enc a) cs) ok

def eInt (x : Int) : List C := [.v (.int .i64 x)]
def eU64 (x : Int) : List C := [.v (.int .u64 x)]
def eU32 (x : Int) : List C := [.v (.int .u32 x)]
def eByte (x : UInt8) : List C := [.v (.int .u8 (x.toNat : Int))]
def eBool (x : Bool) : List C := [.v (.bool x)]
def eText (l : List UInt8) : List C := [.v (.string (tx l))]
def eSl {α : Type} (sz : Nat) (enc : α → List C) (l : List α) : List C := [.sl sz (l.map enc)]
def okInt (x : Int) : Prop := -9223372036854775808 ≤ x ∧ x ≤ 9223372036854775807
def okText (l : List UInt8) : Prop := l.length ≤ 140737488351232
def okAny {α : Type} (_ : α) : Prop := True
def okSl {α : Type} (b : Nat) (ok : α → Prop) (l : List α) : Prop := l.length * b ≤ 140737488351232 ∧ ∀ x ∈ l, ok x

section
variable {P : Program}
theorem openC_int {t : TypeId} (hu : P.underlying t = some (.int .i64)) (hc : P.cellsOf t = 1) : OpensC P t 1 eInt okInt := by
  obtain ⟨h1, h2, h3⟩ := opens_i64 hu hc
  refine ⟨h1, h2, fun h l => ?_⟩
  obtain ⟨h4, a, rfl, h6⟩ := h3 h l
  exact ⟨h4, a, csRep_cons (by unfold CRep; exact ⟨rfl, rfl⟩) csRep_nil, h6⟩
theorem openC_bool {t : TypeId} (hu : P.underlying t = some .bool) (hc : P.cellsOf t = 1) : OpensC P t 1 eBool okAny := by
  obtain ⟨h1, h2, h3⟩ := opens_bool hu hc
  refine ⟨h1, h2, fun h l => ?_⟩
  obtain ⟨h4, a, rfl, h6⟩ := h3 h l
  exact ⟨h4, a, csRep_cons (by unfold CRep; exact ⟨rfl, rfl⟩) csRep_nil, trivial⟩
theorem openC_text {t : TypeId} (hu : P.underlying t = some .string) (hc : P.cellsOf t = 1) : OpensC P t 1 eText okText := by
  obtain ⟨h1, h2, h3⟩ := opens_string hu hc
  refine ⟨h1, h2, fun h l => ?_⟩
  obtain ⟨h4, a, rfl, h6⟩ := h3 h l
  exact ⟨h4, a.data.toList, csRep_cons (by unfold CRep; rw [tx_list]; exact ⟨rfl, rfl⟩) csRep_nil, h6⟩

theorem csRep_rows {α : Type} {F : Fzn} {w : World} {enc : α → List C} : ∀ {l : List α} {css : List (List Value)}, css.length = l.length → (∀ (i : Nat) c x, css[i]? = some c → l[i]? = some x → CsRep F w (enc x) c) → CsRep F w (l.map enc).flatten css.flatten
  | [], [], _, _ => csRep_nil
  | [], _ :: _, h, _ => by simp at h
  | _ :: _, [], h, _ => by simp at h
  | x :: l, c :: css, h, k => by
    rw [List.map_cons, List.flatten_cons, List.flatten_cons]
    exact (k 0 c x rfl rfl).append (csRep_rows (by simpa using h) fun i d y hd hy => k (i + 1) d y (by simpa using hd) (by simpa using hy))
theorem openC_slice {t e : TypeId} {sz : Nat} {α : Type} {enc : α → List C} {ok : α → Prop} (hu : P.underlying t = some (.slice e)) (hc : P.cellsOf t = 1) (hl : ∀ x, (enc x).length = sz) (he : OpensC P e sz enc ok) :
    OpensC P t 1 (eSl sz enc) (okSl (P.bytesOf e) ok) := by
  obtain ⟨h1, h2, h3⟩ := opens_slice hu hc he
  refine ⟨h1, h2, fun h l => ?_⟩
  obtain ⟨h4, a, ⟨v, rfl, css, hs, hcl, hcs⟩, h6⟩ := h3 h l
  refine ⟨h4, a, csRep_cons ?_ csRep_nil, h6⟩
  obtain ⟨g0, ad, cap, rfl, g1, g2, g3, g4⟩ := hs
  unfold CRep
  refine ⟨ad, cap, by rw [List.length_map], by rw [List.length_map]; exact g1, g2, g3, ?_⟩
  rcases g4 with g4 | ⟨b, off, rfl, g5, g6⟩
  · left
    rw [List.eq_nil_of_length_eq_zero g4]; rfl
  · right
    refine ⟨b, off, rfl, ?_⟩
    rw [rowsAt_iff]
    refine ⟨fun r hr => ?_, csAt_of_values (csRep_rows hcl fun i c x hc hx => (hcs i c x hc hx).2) (fun j u hu => g6 j u hu) fun j hj => g5⟩
    obtain ⟨x, _, rfl⟩ := List.mem_map.1 hr
    exact hl x

/-- a struct's cells, field by field -/
theorem cs_field {F : Fzn} {w : World} {cs : List Value} {l m : List C} {off sz : Nat} (h1 : CsRep F w l ((cs.drop off).take sz)) (h2 : CsRep F w m (cs.drop (off + sz))) : CsRep F w (l ++ m) (cs.drop off) := by
  have := h1.append h2
  rwa [← List.drop_drop, List.take_append_drop] at this
theorem cs_end {F : Fzn} {w : World} {cs : List Value} {n : Nat} (h : cs.length = n) : CsRep F w [] (cs.drop n) := by
  rw [List.drop_of_length_le (by omega)]; exact csRep_nil

/-! ### parameters -/
theorem prep_one {w : World} {c : C} {v : Value} (hv : v.cells.toList = [v]) (h : CsRep (FW w) w [c] v.cells.toList) : PRep (fun _ => none) (FW w) w (.d (.c c)) v := by
  rw [hv] at h
  obtain ⟨u, us, e, h1, _⟩ := csRep_inv h
  cases e
  unfold PRep DRep
  exact h1
theorem prep_agg {w : World} {cs : List C} {v : Value} (hv : v = .agg v.cells.toList.toArray) (h : CsRep (FW w) w cs v.cells.toList) : PRep (fun _ => none) (FW w) w (.agg (cs.map D.c)) v := by
  unfold PRep
  exact ⟨_, hv, dsRep_of_cs h⟩
theorem prep_text {w : World} (a : ByteArray) : PRep (fun _ => none) (FW w) w (pStr (tx a.data.toList)) (.string a) := by
  rw [tx_list]; exact rep_str _
theorem psF_nil {w : World} : PsRep (fun _ => none) (FW w) w [] [] := by unfold PsRep; trivial
theorem psF_cons {w : World} {x : PV} {xs : List PV} {u : Value} {us : List Value} (h : PRep (fun _ => none) (FW w) w x u) (hs : PsRep (fun _ => none) (FW w) w xs us) : PsRep (fun _ => none) (FW w) w (x :: xs) (u :: us) := by unfold PsRep; exact ⟨h, hs⟩
theorem Pure.walkF {f : FuncId} {args : List PV} (h : Pure P f args (pBool true)) {w : World} (hG : GL w) (vs : List Value) (hargs : PsRep (fun _ => none) (FW w) w args vs) :
    Calls P f vs.toArray w fun e w' => e = .returned (.bool true) ∧ Below w.heap.size w w' := by
  refine (h.2 (FW w) w vs hG (fun _ _ e => e) hargs).mono ?_
  rintro e w' ⟨v, rfl, hb, hr⟩
  rw [rep_v hr]
  exact ⟨rfl, hb⟩
end
end Go.Proofs.Ytohlkegmmbdlaaa.Pm
