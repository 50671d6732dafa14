/- The small predicates on numbers, each a number between two bounds. For all arguments. -/
import Derived.Test.YtaanlkdpconfiaaBase
namespace Go.Proofs.Ytaanlkdpconfiaa
set_option linter.unusedVariables false
open Go.RowKit

theorem isMass_calls (n : Int) (w : World) :
    Calls Try.prog 172 #[.int .i64 n] w fun e w' => e = .returned (.bool (inB n 1 20000000)) ∧ w = w' := by
  go_enter Try.func172, Try.ntmps172
  go_wp2_with (go_at_call 92; refine (within_calls _ _ _ _).mono ?_; rintro e w1 ⟨rfl, rfl⟩)
  go_ret
  exact ⟨rfl, rfl⟩
theorem isThick_calls (n : Int) (w : World) :
    Calls Try.prog 181 #[.int .i64 n] w fun e w' => e = .returned (.bool (inB n 1 30000)) ∧ w = w' := by
  go_enter Try.func181, Try.ntmps181
  go_wp2_with (go_at_call 92; refine (within_calls _ _ _ _).mono ?_; rintro e w1 ⟨rfl, rfl⟩)
  go_ret
  exact ⟨rfl, rfl⟩
theorem isMinute_calls (n : Int) (w : World) :
    Calls Try.prog 94 #[.int .i64 n] w fun e w' => e = .returned (.bool (inB n 0 1000000)) ∧ w = w' := by
  go_enter Try.func94, Try.ntmps94
  go_wp2_with (go_at_call 92; refine (within_calls _ _ _ _).mono ?_; rintro e w1 ⟨rfl, rfl⟩)
  go_ret
  exact ⟨rfl, rfl⟩
theorem isExtent_calls (n : Int) (w : World) :
    Calls Try.prog 180 #[.int .i64 n] w fun e w' => e = .returned (.bool (inB n 1 300000)) ∧ w = w' := by
  go_enter Try.func180, Try.ntmps180
  go_wp2_with (go_at_call 92; refine (within_calls _ _ _ _).mono ?_; rintro e w1 ⟨rfl, rfl⟩)
  go_ret
  exact ⟨rfl, rfl⟩
theorem sThick_calls (n : Int) (w : World) :
    Calls Try.prog 176 #[.int .i64 n] w fun e w' => e = .returned (.bool (inB n 1 30000)) ∧ w = w' := by
  go_enter Try.func176, Try.ntmps176
  go_wp2_with (go_at_call 85; refine (in_calls _ _ _ _).mono ?_; rintro e w1 ⟨rfl, rfl⟩)
  go_ret
  exact ⟨rfl, rfl⟩
theorem sSize_calls (n : Int) (w : World) :
    Calls Try.prog 175 #[.int .i64 n] w fun e w' => e = .returned (.bool (inB n 1 300000)) ∧ w = w' := by
  go_enter Try.func175, Try.ntmps175
  go_wp2_with (go_at_call 85; refine (in_calls _ _ _ _).mono ?_; rintro e w1 ⟨rfl, rfl⟩)
  go_ret
  exact ⟨rfl, rfl⟩
theorem max_calls (a b : Int) (w : World) :
    Calls Try.prog 133 #[.int .i64 a, .int .i64 b] w fun e w' => e = .returned (.int .i64 (max a b)) ∧ w = w' := by
  by_cases h : b < a
  · rw [show max a b = a by omega]
    go_enter Try.func133, Try.ntmps133
    go_wp2
    go_ret
    exact ⟨rfl, rfl⟩
  · rw [show max a b = b by omega]
    go_enter Try.func133, Try.ntmps133
    go_wp2
    go_ret
    exact ⟨rfl, rfl⟩
end Go.Proofs.Ytaanlkdpconfiaa
