/- Weights: the weight of a mass, in the program and in the reference. For every mass. -/
import Derived.Test.YtjpijpmbocgjfaaDoorBase
namespace Go.Proofs.YtjpijpmbocgjfaaDoor
set_option linter.unusedVariables false
open Go.RowKit

/-- the weight of a mass -/
def wt (m : Int) : Int := nr (m * 981) 100000
theorem wt_bd {m : Int} (h0 : 0 ≤ m) (h1 : m ≤ 20000000) : 0 ≤ wt m ∧ wt m ≤ 196200 := by
  unfold wt
  exact ⟨nr_nonneg (by omega) (by omega), nr_le (by omega) (by omega) (by omega)⟩
def wV (m : Int) : Int := if inB m 0 20000000 = true then wt m else 0
def wC (m : Int) : Int := if inB m 0 20000000 = true then 0 else 2

set_option maxHeartbeats 400000 in
theorem weightOf_calls (m : Int) (w : World) (h0 : 0 ≤ m) (h1 : m ≤ 20000000) :
    Calls Tryd.prog 50 #[.int .i64 m] w fun e w' => e = .returned (.int .i64 (wt m)) ∧ ∃ n, w' = w.drewN n := by
  unfold wt
  go_enter Tryd.func50, Tryd.ntmps50
  go_wp2_with (go_at_call 51; refine (nearest_calls _ _ _ (by omega) (by omega) (by omega) (by omega)).mono ?_; rintro e w1 ⟨rfl, n, rfl⟩)
  go_ret
  exact ⟨rfl, _, rfl⟩
set_option maxHeartbeats 400000 in
theorem sweight_calls (m : Int) (w : World) (h0 : 0 ≤ m) (h1 : m ≤ 20000000) :
    Calls Tryd.prog 48 #[.int .i64 m] w fun e w' => e = .returned (.int .i64 (wt m)) ∧ w = w' := by
  unfold wt
  go_enter Tryd.func48, Tryd.ntmps48
  go_wp2_with (go_at_call 47; refine (div_calls _ _ _ (by omega) (by omega) (by omega) (by omega)).mono ?_; rintro e w1 ⟨rfl, rfl⟩)
  go_ret
  exact ⟨rfl, rfl⟩

end Go.Proofs.YtjpijpmbocgjfaaDoor
