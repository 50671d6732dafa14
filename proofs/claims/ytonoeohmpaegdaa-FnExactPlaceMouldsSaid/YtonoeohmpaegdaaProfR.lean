/- The bounds of a valid profile's numbers. -/
import Derived.Test.YtonoeohmpaegdaaProfC
namespace Go.Proofs.Ytonoeohmpaegdaa
set_option linter.unusedVariables false
open Go.RowKit
theorem prof_rng {s : ByteArray} {n : Nat} {p q h : Nat → Int} (hp : profB s n p q h = true) : 0 < n ∧ n ≤ 32 ∧ ∀ i, i < n → (0 ≤ p i ∧ p i ≤ 300000) ∧ (0 ≤ q i ∧ q i ≤ 300000) ∧ (0 ≤ h i ∧ h i ≤ 300000) := by
  simp only [profB, Bool.and_eq_true, decide_eq_true_eq] at hp
  obtain ⟨-, h1, h2, h3, -, -⟩ := hp
  refine ⟨h1, h2, fun i hi => ?_⟩
  have := ringB_of (allB_of h3 i hi)
  omega
end Go.Proofs.Ytonoeohmpaegdaa
