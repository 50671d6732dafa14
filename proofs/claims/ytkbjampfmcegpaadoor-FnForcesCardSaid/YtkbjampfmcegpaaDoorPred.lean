/- The small predicates on numbers, each a number between two bounds. For all arguments. -/
import Derived.Test.YtkbjampfmcegpaaDoorBase
namespace Go.Proofs.YtkbjampfmcegpaaDoor
set_option linter.unusedVariables false
open Go.RowKit

theorem isMass_calls (n : Int) (w : World) :
    Calls Tryd.prog 28 #[.int .i64 n] w fun e w' => e = .returned (.bool (inB n 1 20000000)) ∧ w = w' := by
  go_enter Tryd.func28, Tryd.ntmps28
  go_wp2_with (go_at_call 17; refine (within_calls _ _ _ _).mono ?_; rintro e w1 ⟨rfl, rfl⟩)
  go_ret
  exact ⟨rfl, rfl⟩
end Go.Proofs.YtkbjampfmcegpaaDoor
