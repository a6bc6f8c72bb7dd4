/- a map of names: what is in it already -/
import Derived.Test.YtjpkacjmmclkeaaPdList
namespace Go.Proofs.Ytjpkacjmmclkeaa.Pm
open Go.RowKit K
set_option linter.unusedVariables false
set_option linter.unusedSimpArgs false
set_option maxRecDepth 100000

def nmap (seen : List (List UInt8)) : List (ByteArray × Value) := seen.map fun s => (tx s, .agg #[])
theorem mpGet_nmap : ∀ (seen : List (List UInt8)) (s : List UInt8), mpGet (nmap seen) (tx s) = if s ∈ seen then some (.agg #[]) else none
  | [], s => rfl
  | a :: l, s => by
    show (bif decide (tx s = tx a) then _ else _) = _
    by_cases h : s = a
    · subst h; simp
    · have : ¬ tx s = tx a := fun e => h (tx_inj e)
      rw [decide_eq_false this, cond_false]
      show mpGet (nmap l) (tx s) = _
      rw [mpGet_nmap l s]
      simp [h]
theorem mpPut_nmap : ∀ (seen : List (List UInt8)) (s : List UInt8), mpPut (nmap seen) (tx s) (.agg #[]) = if s ∈ seen then nmap seen else nmap (seen ++ [s])
  | [], s => rfl
  | a :: l, s => by
    show (bif decide (tx s = tx a) then _ else _) = _
    by_cases h : s = a
    · subst h; simp [nmap]
    · have : ¬ tx s = tx a := fun e => h (tx_inj e)
      rw [decide_eq_false this, cond_false]
      show _ :: mpPut (nmap l) (tx s) _ = _
      rw [mpPut_nmap l s]
      by_cases h2 : s ∈ l
      · simp [h2, nmap]
      · simp [h, h2, nmap]
theorem nmap_plain (seen : List (List UInt8)) : ∀ p ∈ nmap seen, plainV p.2 = true := by
  intro p hp
  obtain ⟨s, _, rfl⟩ := List.mem_map.1 hp
  rfl
theorem s_add (s : List UInt8) (seen : List (List UInt8)) : CallS Try.prog 36 [.d (.mp FK), pStr (tx s)] [] [(FK, .mp (nmap seen))] (pBool (!decide (s ∈ seen))) [(FK, .mp (if s ∈ seen then nmap seen else nmap (seen ++ [s])))] := by
  refine callS_of Try.func36 (by rfl) rfl (by kernel_rfl) (by rfl) [FK] rfl ?_
  ((conv => whnf); repeat ((first | with_reducible refine BCase.tt ?_ | with_reducible refine BCase.ff ?_); (conv => whnf)))
  refine Need.mk ⟨rfl, nmap_plain seen⟩ ?_
  ((conv => whnf); repeat ((first | with_reducible refine BCase.tt ?_ | with_reducible refine BCase.ff ?_); (conv => whnf)))
  refine ⟨fun v hv => ?_, fun hv => ?_⟩
  · rw [mpGet_nmap] at hv
    by_cases h : s ∈ seen
    · rw [if_pos h] at hv
      cases hv
      ((conv => whnf); repeat ((first | with_reducible refine BCase.tt ?_ | with_reducible refine BCase.ff ?_); (conv => whnf)))
      refine RetS.mk [(FK, FK)] [FK] rfl rfl ?_ ?_
      · exact PLe.bool (by simp [h])
      · exact ⟨⟨rfl, by rw [if_pos h]; show mpPut _ _ _ = _; rw [mpPut_nmap, if_pos h]⟩, trivial⟩
    · rw [if_neg h] at hv; cases hv
  · rw [mpGet_nmap] at hv
    by_cases h : s ∈ seen
    · rw [if_pos h] at hv; cases hv
    · ((conv => whnf); repeat ((first | with_reducible refine BCase.tt ?_ | with_reducible refine BCase.ff ?_); (conv => whnf)))
      refine RetS.mk [(FK, FK)] [FK] rfl rfl ?_ ?_
      · exact PLe.bool (by simp [h])
      · exact ⟨⟨rfl, by rw [if_neg h]; show mpPut _ _ _ = _; rw [mpPut_nmap, if_neg h]⟩, trivial⟩
end Go.Proofs.Ytjpkacjmmclkeaa.Pm
