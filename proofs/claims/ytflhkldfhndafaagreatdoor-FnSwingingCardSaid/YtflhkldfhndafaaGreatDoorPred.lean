/- The small predicates on numbers, each a number between two bounds. For all arguments. -/
import Derived.Test.YtflhkldfhndafaaGreatDoorBase
namespace Go.Proofs.YtflhkldfhndafaaGreatDoor
set_option linter.unusedVariables false
open Go.RowKit

theorem isMass_calls (n : Int) (w : World) :
    Calls Tryz.prog 24 #[.int .i64 n] w fun e w' => e = .returned (.bool (inB n 1 20000000)) ∧ w = w' := by
  go_enter Tryz.func24, Tryz.ntmps24
  go_wp2_with (go_at_call 25; refine (within_calls _ _ _ _).mono ?_; rintro e w1 ⟨rfl, rfl⟩)
  go_ret
  exact ⟨rfl, rfl⟩
end Go.Proofs.YtflhkldfhndafaaGreatDoor
