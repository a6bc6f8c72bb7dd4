/- The model does what the plain machine reckons: operations that only look. -/
import Derived.Test.YthogcgnhhcbkkaaDoorPmOp
namespace Go.Proofs.YthogcgnhhcbkkaaDoor.Pm
open Go.RowKit

/-- an operation, wherever its operands are as reckoned, yields v and does δ to the keys -/
def SemStep (P : Program) (o : Oper) (e : Operand → PV) (v : PV) (δ : Dl) (rf : Rf) : Prop :=
  ∀ (c : Ctx) (σ : Sg) (h : Hp) (a : Act) (w : World), c.Ok → SW c σ h w → (∀ x ∈ o.op.operands, PRep σ (fz c σ h w) w (e x) (a.eval x)) →
    (∀ p ∈ rf, h p.1 = some p.2) → Fresh σ δ rf → ∀ (next : Act → World → Prop) (Q : Exit → Act → World → Prop),
    (∀ u σ' w', Evo σ σ' (fz c σ h w) (fz c σ' (Dl.app h δ) w') w w' → SW c σ' (Dl.app h δ) w' → PRep σ' (fz c σ' (Dl.app h δ) w') w' v u →
      (∀ k, k ∉ Dl.keys δ → σ k = none → σ' k = none) → next (a.put o.dst u) w') → o.wp P a w next Q
/-- an operation that panics -/
def SemPan (P : Program) (o : Oper) (e : Operand → PV) (x : Value) (rf : Rf) : Prop :=
  ∀ (c : Ctx) (σ : Sg) (h : Hp) (a : Act) (w : World), c.Ok → SW c σ h w → (∀ x ∈ o.op.operands, PRep σ (fz c σ h w) w (e x) (a.eval x)) →
    (∀ p ∈ rf, h p.1 = some p.2) → ∀ (next : Act → World → Prop) (Q : Exit → Act → World → Prop),
    (∀ w', PanW c w' → Q (.panic [{ v := x, recovered := false }]) a w') → o.wp P a w next Q

theorem Evo.refl {σ : Sg} {F : Fzn} {w : World} : Evo σ σ F F w w := ⟨fun _ _ h => h, ⟨fun _ _ h => h, fun _ _ _ => rfl⟩, Shape.refl w⟩
theorem PanW.of_sw {c : Ctx} {σ : Sg} {h : Hp} {w : World} (hs : SW c σ h w) : PanW c w := ⟨hs.os, hs.tape, hs.output, hs.size, hs.block, fun b o hf => hs.kept.cell b o hf, hs.shape⟩

theorem semStep_val {P : Program} {o : Oper} {e : Operand → PV} {v : PV} (rf : Rf)
    (hr : ∀ (c : Ctx) (σ : Sg) (h : Hp) (a : Act) (w : World), SW c σ h w → (∀ p ∈ rf, h p.1 = some p.2) → (∀ x ∈ o.op.operands, PRep σ (fz c σ h w) w (e x) (a.eval x)) →
      ∃ u, (execOp a.eval o).run P w = .ok (.value u) w ∧ PRep σ (fz c σ h w) w v u) : SemStep P o e v [] rf := by
  intro c σ h a w hc hs hx hrf _ next Q K
  obtain ⟨u, h1, h2⟩ := hr c σ h a w hs hrf hx
  unfold Oper.wp
  rw [h1]
  exact K u σ w Evo.refl hs h2 (fun _ _ h => h)

theorem force_out {v : PV} {K : PV → Prop} (h : PV.force v K) : K v := by
  cases v with
  | d x => cases x <;> exact h
  | agg l => exact h
  | tup l => exact h
  | any => exact h
theorem forceL_out {α : Type} : ∀ {l : List α} {K : List α → Prop}, forceL l K → K l
  | [], _, h => h
  | _ :: xs, _, h => forceL_out (l := xs) h

section
variable {σ : Sg} {F : Fzn} {w : World}
theorem rep_v {x u : Value} (h : PRep σ F w (.d (.c (.v x))) u) : u = x := by
  unfold PRep DRep CRep at h; exact h.1
theorem rep_of {x : Value} (h : x.oneCell' = true) : PRep σ F w (.d (.c (.v x))) x := by
  unfold PRep DRep CRep; exact ⟨rfl, h⟩
theorem rep_int (k : IntKind) (n : Int) : PRep σ F w (pInt k n) (.int k n) := rep_of rfl
theorem rep_bool (b : Bool) : PRep σ F w (pBool b) (.bool b) := rep_of rfl
theorem rep_str (s : ByteArray) : PRep σ F w (pStr s) (.string s) := rep_of rfl
end

/-! ### integers, texts, truths -/
theorem toList_beq_dec (a b : ByteArray) : (a.toList == b.toList) = decide (a = b) := by
  rw [Bool.eq_iff_iff, beq_iff_eq, decide_eq_true_eq, ByteArray.toList_eq, ByteArray.toList_eq]
  constructor
  · intro h; apply ByteArray.ext; apply Array.toList_inj.1 h
  · intro h; rw [h]

theorem intBin_out {P : Program} {op : BinOp} {k k' : IntKind} {a b : Int} {K : PV → Prop} (t : TypeId) (h : intBin op k a k' b K) :
    ∃ v, K (.d (.c (.v v))) ∧ v.oneCell' = true ∧ ∀ w, (binOp op t (.int k a) (.int k' b)).run P w = .ok v w := by
  unfold intBin at h
  split at h
  · obtain ⟨h0, n, rfl, h1⟩ := h
    refine ⟨_, h1, rfl, fun w => ?_⟩
    simp [binOp, Op.shift, show ¬ b < 0 by omega]
  · obtain ⟨h0, h1⟩ := h
    refine ⟨_, h1, rfl, fun w => ?_⟩
    simp [binOp, Op.shift, show ¬ b < 0 by omega]
  · rename_i o1 o2
    by_cases hk : k = k'
    · subst hk
      rw [decide_eq_true rfl] at h
      cases op
      case shl => exact absurd rfl o1
      case shr => exact absurd rfl o2
      case quo =>
        obtain ⟨h0, n, rfl, h1⟩ := h
        exact ⟨_, h1, rfl, fun w => by simp [binOp, Op.intDiv, h0]⟩
      case rem =>
        obtain ⟨h0, h1⟩ := h
        exact ⟨_, h1, rfl, fun w => by simp [binOp, Op.intDiv, h0]⟩
      case add => obtain ⟨n, rfl, h1⟩ := h; exact ⟨_, h1, rfl, fun w => by simp [binOp, Op.intArith]⟩
      case sub => obtain ⟨n, rfl, h1⟩ := h; exact ⟨_, h1, rfl, fun w => by simp [binOp, Op.intArith]⟩
      case mul => obtain ⟨n, rfl, h1⟩ := h; exact ⟨_, h1, rfl, fun w => by simp [binOp, Op.intArith]⟩
      case and => obtain ⟨n, rfl, h1⟩ := h; exact ⟨_, h1, rfl, fun w => by simp [binOp, Op.intBits]⟩
      case or => obtain ⟨n, rfl, h1⟩ := h; exact ⟨_, h1, rfl, fun w => by simp [binOp, Op.intBits]⟩
      case xor => obtain ⟨n, rfl, h1⟩ := h; exact ⟨_, h1, rfl, fun w => by simp [binOp, Op.intBits]⟩
      case andNot => obtain ⟨n, rfl, h1⟩ := h; exact ⟨_, h1, rfl, fun w => by simp [binOp, Op.intBits]⟩
      case eql => exact ⟨_, h, rfl, fun w => by simp [binOp, Op.intCmp]; rfl⟩
      case neq => exact ⟨_, h, rfl, fun w => by simp [binOp, Op.intCmp]; rw [Bool.eq_iff_iff]; simp⟩
      case lss => exact ⟨_, h, rfl, fun w => by simp [binOp, Op.intCmp]⟩
      case leq => exact ⟨_, h, rfl, fun w => by simp [binOp, Op.intCmp]⟩
      case gtr => exact ⟨_, h, rfl, fun w => by simp [binOp, Op.intCmp]⟩
      case geq => exact ⟨_, h, rfl, fun w => by simp [binOp, Op.intCmp]⟩
      all_goals exact h.elim
    · rw [decide_eq_false hk] at h; exact h.elim
theorem strBin_out {P : Program} {op : BinOp} {a b : ByteArray} {K : PV → Prop} (t : TypeId) (h : strBin op a b K) :
    ∃ v, K (.d (.c (.v v))) ∧ v.oneCell' = true ∧ ∀ w, (binOp op t (.string a) (.string b)).run P w = .ok v w := by
  unfold strBin at h
  cases op
  case add =>
    obtain ⟨h0, h1⟩ := h
    refine ⟨_, h1, rfl, fun w => ?_⟩
    have : ¬ ((a.size + b.size : Nat) : Int) > IntKind.i64.max := by
      have : IntKind.i64.max = 9223372036854775807 := rfl
      omega
    simp only [binOp, Op.stringOp, this, if_false]; rfl
  case eql => exact ⟨_, h, rfl, fun w => by simp only [binOp, Op.stringOp, toList_beq_dec]; rfl⟩
  case neq => exact ⟨_, h, rfl, fun w => by simp only [binOp, Op.stringOp, toList_beq_dec, decide_not]; rfl⟩
  case lss => exact ⟨_, h, rfl, fun w => by simp only [binOp, Op.stringOp]; rfl⟩
  case leq => exact ⟨_, h, rfl, fun w => by simp only [binOp, Op.stringOp, toList_beq_dec]; rfl⟩
  case gtr => exact ⟨_, h, rfl, fun w => by simp only [binOp, Op.stringOp, toList_beq_dec]; rfl⟩
  case geq => exact ⟨_, h, rfl, fun w => by simp only [binOp, Op.stringOp]; rfl⟩
  all_goals exact h.elim
theorem run_equalIn_bool {P : Program} {t : TypeId} (hu : P.underlying t = some .bool) (d : Nat) (a b : Bool) (w : World) : (Op.equalIn (d + 1) t (.bool a) (.bool b)).run P w = .ok (a == b) w := by
  simp [Op.equalIn, run_underlying hu]
theorem run_equal_bool {P : Program} {t : TypeId} (hu : P.underlying t = some .bool) (a b : Bool) (w : World) : (Op.equal t (.bool a) (.bool b)).run P w = .ok (a == b) w :=
  run_equalIn_bool hu 9999 a b w
theorem boolBin_out {P : Program} {op : BinOp} {a b : Bool} {K : PV → Prop} (t : TypeId) (h : boolBin P op t a b K) :
    ∃ v, K (.d (.c (.v v))) ∧ v.oneCell' = true ∧ ∀ w, (binOp op t (.bool a) (.bool b)).run P w = .ok v w := by
  unfold boolBin at h
  split at h
  · rename_i hu
    cases op
    case eql => exact ⟨_, h, rfl, fun w => by
      rw [show binOp .eql t (.bool a) (.bool b) = (do pure (.bool (← Op.equal t (.bool a) (.bool b)))) from rfl]
      simp [run_equal_bool hu]⟩
    case neq => exact ⟨_, h, rfl, fun w => by
      rw [show binOp .neq t (.bool a) (.bool b) = (do pure (.bool (!(← Op.equal t (.bool a) (.bool b))))) from rfl]
      simp [run_equal_bool hu]⟩
    all_goals exact h.elim
  · exact h.elim

end Go.Proofs.YthogcgnhhcbkkaaDoor.Pm
