/- Weights: the weight of a mass, in the program and in the reference. For every mass. -/
import Derived.Test.YtkbjampfmcegpaaDoorBase
namespace Go.Proofs.YtkbjampfmcegpaaDoor
set_option linter.unusedVariables false
open Go.RowKit

/-- the weight of a mass -/
def wt (m : Int) : Int := nr (m * 981) 100000
theorem wt_bd {m : Int} (h0 : 0 ≤ m) (h1 : m ≤ 20000000) : 0 ≤ wt m ∧ wt m ≤ 196200 := by
  unfold wt
  exact ⟨nr_nonneg (by omega) (by omega), nr_le (by omega) (by omega) (by omega)⟩
def wV (m : Int) : Int := if inB m 0 20000000 = true then wt m else 0
def wC (m : Int) : Int := if inB m 0 20000000 = true then 0 else 2

set_option maxHeartbeats 400000 in
theorem weightOf_calls (m : Int) (w : World) (h0 : 0 ≤ m) (h1 : m ≤ 20000000) :
    Calls Tryd.prog 18 #[.int .i64 m] w fun e w' => e = .returned (.int .i64 (wt m)) ∧ ∃ n, w' = w.drewN n := by
  unfold wt
  go_enter Tryd.func18, Tryd.ntmps18
  go_wp2_with (go_at_call 24; refine (nearest_calls _ _ _ (by omega) (by omega) (by omega) (by omega)).mono ?_; rintro e w1 ⟨rfl, n, rfl⟩)
  go_ret
  exact ⟨rfl, _, rfl⟩
set_option maxHeartbeats 400000 in
theorem WeightOf_calls (m : Int) (w : World) :
    Calls Tryd.prog 9 #[.int .i64 m] w fun e w' => e = .returned (.tuple #[.int .i64 (wV m), .int .i64 (wC m)]) ∧ ∃ n, w' = w.drewN n := by
  cases h : inB m 0 20000000
  · rw [show wV m = 0 by simp [wV, h], show wC m = 2 by simp [wC, h]]
    go_enter Tryd.func9, Tryd.ntmps9
    go_wp2_with (go_at_call 17; refine (within_calls _ _ _ _).mono ?_; rintro e w1 ⟨rfl, rfl⟩)
    go_ret2
    exact ⟨rfl, 0, rfl⟩
  · rw [show wV m = wt m by simp [wV, h], show wC m = 0 by simp [wC, h]]
    obtain ⟨b0, b1⟩ := inB_iff.1 h
    go_enter Tryd.func9, Tryd.ntmps9
    go_wp2_with (first | (go_at_call 17; refine (within_calls _ _ _ _).mono ?_; rintro e w1 ⟨rfl, rfl⟩) | (go_at_call 18; refine (weightOf_calls _ _ (by omega) (by omega)).mono ?_; rintro e w1 ⟨rfl, n, rfl⟩))
    go_ret2
    exact ⟨rfl, _, rfl⟩
end Go.Proofs.YtkbjampfmcegpaaDoor
