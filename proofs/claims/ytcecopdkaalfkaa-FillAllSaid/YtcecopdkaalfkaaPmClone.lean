/- Slices of no elements, taken apart: nil ones and others. -/
import Derived.Test.YtcecopdkaalfkaaPmBytes
namespace Go.Proofs.Ytcecopdkaalfkaa.Pm
open Go.RowKit
set_option linter.unusedVariables false
set_option linter.unusedSimpArgs false

theorem pure_sl0 {P : Program} {f : FuncId} {sz : Nat} {post : List PV} {r : PV} (h1 : Pure P f (.d (.c (.v (.slice none 0 0))) :: post) r) (h2 : ∀ a cap, Pure P f (.d (.c (.v (.slice (some a) 0 cap))) :: post) r) : Pure P f (.d (.c (.sl sz [])) :: post) r := by
  refine ⟨h1.1, fun F w vs hG hF hp => ?_⟩
  cases vs with
  | nil => unfold PsRep at hp; exact hp.elim
  | cons u us =>
    unfold PsRep at hp
    obtain ⟨q1, q2⟩ := hp
    unfold PRep DRep CRep at q1
    obtain ⟨a, cap, rfl, _, _, g3, _⟩ := q1
    have mk : ∀ x, Pure P f (.d (.c (.v x)) :: post) r → x.oneCell' = true → .slice a ([] : List (List C)).length cap = x → Calls P f (.slice a ([] : List (List C)).length cap :: us).toArray w fun e w' => ∃ v, e = .returned v ∧ Below w.heap.size w w' ∧ PRep (fun _ => none) (fun b o => F b o ∨ (w.heap.size ≤ b ∧ b < w'.heap.size)) w' r v := by
      rintro x hx h1 rfl
      refine hx.2 F w _ hG hF ?_
      unfold PsRep
      exact ⟨by unfold PRep DRep CRep; exact ⟨rfl, h1⟩, q2⟩
    cases a with
    | none => obtain rfl := g3 rfl; exact mk _ h1 rfl rfl
    | some a => exact mk _ (h2 a cap) rfl rfl
end Go.Proofs.Ytcecopdkaalfkaa.Pm
