/- The forces of a hung bell at an angle, in the program and in the reference. For every valid hung bell and every angle, where the table of sines reads as its initialiser lays it. -/
import Derived.Test.YtflhkldfhndafaaGreatDoorHung
import Derived.Test.YtflhkldfhndafaaGreatDoorWeight
import Derived.Test.YtflhkldfhndafaaGreatDoorSine
import Derived.Test.YtflhkldfhndafaaGreatDoorRowBase
import Derived.Deep.RegionHeld3
namespace Go.Proofs.YtflhkldfhndafaaGreatDoor
set_option linter.unusedVariables false
open Go.RowKit

theorem mul_box {x y X Y : Int} (h1 : -X ≤ x) (h2 : x ≤ X) (h3 : -Y ≤ y) (h4 : y ≤ Y) : -(X * Y) ≤ x * y ∧ x * y ≤ X * Y := by
  have hX : 0 ≤ X := by omega
  rcases Int.le_total 0 x with hx | hx <;> rcases Int.le_total 0 y with hy | hy
  · have a := Int.mul_le_mul h2 h4 hy hX
    have b := Int.mul_nonneg hx hy
    omega
  · have a := Int.mul_le_mul h2 (show -y ≤ Y by omega) (by omega) hX
    have b := Int.mul_nonneg hx (show 0 ≤ -y by omega)
    rw [Int.mul_neg] at a b
    omega
  · have a := Int.mul_le_mul (show -x ≤ X by omega) h4 hy hX
    have b := Int.mul_nonneg (show 0 ≤ -x by omega) hy
    rw [Int.neg_mul] at a b
    omega
  · have a := Int.mul_le_mul (show -x ≤ X by omega) (show -y ≤ Y by omega) (by omega) hX
    have b := Int.mul_nonneg (show 0 ≤ -x by omega) (show 0 ≤ -y by omega)
    rw [Int.neg_mul_neg] at a b
    omega
/-- the vertical force -/
def vF (w f c a : Int) : Int := w + nr (w * f * (3 * c * c - 2 * a * c - 1000000)) 1000000000
/-- the horizontal force -/
def hF (w f c s a : Int) : Int := nr (w * f * (3 * c - 2 * a) * s) 1000000000
def vert (m f g d : Int) : Int := vF (wt m) f (cosF d) (cosF g)
def hori (m f g d : Int) : Int := hF (wt m) f (cosF d) (sinF d) (cosF g)
theorem wf_bd {w f : Int} (w0 : 0 ≤ w) (w1 : w ≤ 196200) (f0 : 1 ≤ f) (f1 : f ≤ 1000) : 0 ≤ w * f ∧ w * f ≤ 196200000 := by
  have := mul_box (show -196200 ≤ w by omega) w1 (show -1000 ≤ f by omega) f1
  have := Int.mul_nonneg w0 (show 0 ≤ f by omega)
  omega
theorem vF_bd {w f c a : Int} (w0 : 0 ≤ w) (w1 : w ≤ 196200) (f0 : 1 ≤ f) (f1 : f ≤ 1000) (c0 : -1000 ≤ c) (c1 : c ≤ 1000) (a0 : -1000 ≤ a) (a1 : a ≤ 1000) : (0 ≤ w * f ∧ w * f ≤ 196200000) ∧ (-3000000 ≤ 3 * c * c ∧ 3 * c * c ≤ 3000000) ∧ (-2000000 ≤ 2 * a * c ∧ 2 * a * c ≤ 2000000) ∧
    (-1177200000000000 ≤ w * f * (3 * c * c - 2 * a * c - 1000000) ∧ w * f * (3 * c * c - 2 * a * c - 1000000) ≤ 1177200000000000) := by
  have e1 := wf_bd w0 w1 f0 f1
  have e2 := mul_box (show -3000 ≤ 3 * c by omega) (show 3 * c ≤ 3000 by omega) (show -1000 ≤ c by omega) c1
  have e3 := mul_box (show -2000 ≤ 2 * a by omega) (show 2 * a ≤ 2000 by omega) (show -1000 ≤ c by omega) c1
  have e4 := mul_box (show -196200000 ≤ w * f by omega) e1.2 (show -6000000 ≤ 3 * c * c - 2 * a * c - 1000000 by omega) (show 3 * c * c - 2 * a * c - 1000000 ≤ 6000000 by omega)
  exact ⟨e1, by omega, by omega, by omega⟩
theorem vF_nr {w f c a : Int} (w0 : 0 ≤ w) (w1 : w ≤ 196200) (f0 : 1 ≤ f) (f1 : f ≤ 1000) (c0 : -1000 ≤ c) (c1 : c ≤ 1000) (a0 : -1000 ≤ a) (a1 : a ≤ 1000) : -1177200 ≤ nr (w * f * (3 * c * c - 2 * a * c - 1000000)) 1000000000 ∧ nr (w * f * (3 * c * c - 2 * a * c - 1000000)) 1000000000 ≤ 1177200 := by
  obtain ⟨_, _, _, h⟩ := vF_bd w0 w1 f0 f1 c0 c1 a0 a1
  exact ⟨nr_ge (c := 1177200) (by omega) (by omega) (by omega), nr_le (by omega) (by omega) (by omega)⟩
theorem hF_bd {w f c s a : Int} (w0 : 0 ≤ w) (w1 : w ≤ 196200) (f0 : 1 ≤ f) (f1 : f ≤ 1000) (c0 : -1000 ≤ c) (c1 : c ≤ 1000) (a0 : -1000 ≤ a) (a1 : a ≤ 1000) (s0 : -1000 ≤ s) (s1 : s ≤ 1000) : (0 ≤ w * f ∧ w * f ≤ 196200000) ∧ (-981000000000 ≤ w * f * (3 * c - 2 * a) ∧ w * f * (3 * c - 2 * a) ≤ 981000000000) ∧
    (-981000000000000 ≤ w * f * (3 * c - 2 * a) * s ∧ w * f * (3 * c - 2 * a) * s ≤ 981000000000000) := by
  have e1 := wf_bd w0 w1 f0 f1
  have e2 := mul_box (show -196200000 ≤ w * f by omega) e1.2 (show -5000 ≤ 3 * c - 2 * a by omega) (show 3 * c - 2 * a ≤ 5000 by omega)
  have e3 := mul_box (show -981000000000 ≤ w * f * (3 * c - 2 * a) by omega) (show w * f * (3 * c - 2 * a) ≤ 981000000000 by omega) (show -1000 ≤ s by omega) s1
  exact ⟨e1, by omega, by omega⟩

end Go.Proofs.YtflhkldfhndafaaGreatDoor
