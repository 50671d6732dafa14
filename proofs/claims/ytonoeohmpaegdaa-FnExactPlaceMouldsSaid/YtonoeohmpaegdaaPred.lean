/- The small predicates on numbers, each a number between two bounds. For all arguments. -/
import Derived.Test.YtonoeohmpaegdaaBase
namespace Go.Proofs.Ytonoeohmpaegdaa
set_option linter.unusedVariables false
open Go.RowKit

theorem isMass_calls (n : Int) (w : World) :
    Calls Try.prog 103 #[.int .i64 n] w fun e w' => e = .returned (.bool (inB n 1 20000000)) ∧ w = w' := by
  go_enter Try.func103, Try.ntmps103
  go_wp2_with (go_at_call 87; refine (within_calls _ _ _ _).mono ?_; rintro e w1 ⟨rfl, rfl⟩)
  go_ret
  exact ⟨rfl, rfl⟩
theorem max_calls (a b : Int) (w : World) :
    Calls Try.prog 93 #[.int .i64 a, .int .i64 b] w fun e w' => e = .returned (.int .i64 (max a b)) ∧ w = w' := by
  by_cases h : b < a
  · rw [show max a b = a by omega]
    go_enter Try.func93, Try.ntmps93
    go_wp2
    go_ret
    exact ⟨rfl, rfl⟩
  · rw [show max a b = b by omega]
    go_enter Try.func93, Try.ntmps93
    go_wp2
    go_ret
    exact ⟨rfl, rfl⟩
end Go.Proofs.Ytonoeohmpaegdaa
