/- Weights: the weight of a mass, in the program and in the reference. For every mass. -/
import Derived.Test.YtflhkldfhndafaaGreatDoorBase
namespace Go.Proofs.YtflhkldfhndafaaGreatDoor
set_option linter.unusedVariables false
open Go.RowKit

/-- the weight of a mass -/
def wt (m : Int) : Int := nr (m * 981) 100000
theorem wt_bd {m : Int} (h0 : 0 ≤ m) (h1 : m ≤ 20000000) : 0 ≤ wt m ∧ wt m ≤ 196200 := by
  unfold wt
  exact ⟨nr_nonneg (by omega) (by omega), nr_le (by omega) (by omega) (by omega)⟩
def wV (m : Int) : Int := if inB m 0 20000000 = true then wt m else 0
def wC (m : Int) : Int := if inB m 0 20000000 = true then 0 else 2

end Go.Proofs.YtflhkldfhndafaaGreatDoor
