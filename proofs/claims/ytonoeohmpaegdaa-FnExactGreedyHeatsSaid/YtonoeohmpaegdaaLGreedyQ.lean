/- GreedyHeats of both, with their marks: joined. -/
import Derived.Test.YtonoeohmpaegdaaGreedy
import Derived.Test.YtonoeohmpaegdaaGreedyS
import Derived.Test.YtonoeohmpaegdaaRMarkP
namespace Go.Proofs.Ytonoeohmpaegdaa
set_option linter.unusedVariables false
theorem ghL_len {n : Nat} {ps : Nat → ByteArray} {pm pr pd : Nat → Int} {m : Nat} {cs : Nat → ByteArray} {cc ch cf : Nat → Int} (hn : n ≤ 1048576) : (ghL n ps pm pr pd m cs cc ch cf).length ≤ 1048576 := by
  unfold ghL
  cases h : (poursB n ps pm pr pd && crucsB m cs cc ch cf && allB (⟨n, m, pm, pr, pd, cc, ch, cf⟩ : GP).got n)
  · exact Nat.zero_le _
  · have h2 := (Bool.and_eq_true _ _ |>.mp h).2
    rw [cond_true, GP.hs_len n h2]
    exact hn
end Go.Proofs.Ytonoeohmpaegdaa
