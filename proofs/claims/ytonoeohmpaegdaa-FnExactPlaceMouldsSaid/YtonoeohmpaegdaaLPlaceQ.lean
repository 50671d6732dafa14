/- PlaceMoulds of both, with their marks: joined. -/
import Derived.Test.YtonoeohmpaegdaaPlaceI
import Derived.Test.YtonoeohmpaegdaaPlaceS
import Derived.Test.YtonoeohmpaegdaaMarkH
namespace Go.Proofs.Ytonoeohmpaegdaa
set_option linter.unusedVariables false
theorem pmL_len {f : Nat → ProfV} {n : Nat} {wall : Int} {m : Nat} {ht : Nat → ByteArray} {hr hd : Nat → Int} (hn : n ≤ 1048576) : (pmL f n wall m ht hr hd).length ≤ 1048576 := by
  unfold pmL
  cases (pmOk f n wall m ht hr hd && inB wall 1 150000 && !decide (8 < n))
  · exact Nat.zero_le _
  · rw [cond_true, greedyC_len]
    exact hn
end Go.Proofs.Ytonoeohmpaegdaa
