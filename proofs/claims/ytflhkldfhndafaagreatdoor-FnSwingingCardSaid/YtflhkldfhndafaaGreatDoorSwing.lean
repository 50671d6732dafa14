/- The length of a pendulum with a hung bell's period, in the program and in the reference. For every hung bell. -/
import Derived.Test.YtflhkldfhndafaaGreatDoorHung
namespace Go.Proofs.YtflhkldfhndafaaGreatDoor
set_option linter.unusedVariables false
open Go.RowKit


/-- the length of a pendulum with the same period -/
def sl (a f : Int) : Int := nr (1000 * a) f
theorem sl_bd {a f : Int} (h0 : 1 ≤ a) (h1 : a ≤ 30000) (h2 : 1 ≤ f) (h3 : f ≤ 1000) : 1 ≤ sl a f ∧ sl a f ≤ 30000000 := by
  unfold sl
  refine ⟨?_, nr_le (by omega) (by omega) ?_⟩
  · have h := nr_mono (a := f) (b := f) (c := 1000 * a) (by omega) (by omega)
    have e : nr f f = 1 := by
      unfold nr
      rw [if_neg (by omega)]
      exact div_unique (r := f) (by omega) (by omega) (by omega) (by omega)
    omega
  · have := Int.mul_le_mul_of_nonneg_left h2 (show (0 : Int) ≤ 30000000 by omega)
    omega
noncomputable def slV (s : ByteArray) (m a f g : Int) : Int := if hungB s m a f g = true then sl a f else 0
noncomputable def slC (s : ByteArray) (m a f g : Int) : Int := if hungB s m a f g = true then 0 else 1

set_option maxHeartbeats 400000 in
theorem swingLength_calls (s : ByteArray) (m a f g : Int) (w : World) (h0 : 1 ≤ a) (h1 : a ≤ 30000) (h2 : 1 ≤ f) (h3 : f ≤ 1000) :
    Calls Tryz.prog 27 #[.agg #[.string s, .int .i64 m, .int .i64 a, .int .i64 f, .int .i64 g]] w fun e w' => e = .returned (.int .i64 (sl a f)) ∧ Below w.heap.size w w' := by
  unfold sl
  go_enter Tryz.func27, Tryz.ntmps27
  go_wp2_with (go_at_call 26; refine (nearest_calls _ _ _ (by omega) (by omega) (by omega) (by omega)).mono ?_; rintro e w1 ⟨rfl, n, rfl⟩)
  go_ret
  exact ⟨rfl, below_drewN ((Below.refl _ _).alloc (Nat.le_refl _) _) _⟩


end Go.Proofs.YtflhkldfhndafaaGreatDoor
