/- The forces of a hung bell at an angle, in the program and in the reference. For every valid hung bell and every angle, where the table of sines reads as its initialiser lays it. -/
import Derived.Test.YtkbjampfmcegpaaDoorHung
import Derived.Test.YtkbjampfmcegpaaDoorWeight
import Derived.Test.YtkbjampfmcegpaaDoorSine
import Derived.Test.YtkbjampfmcegpaaDoorRowBase
import Derived.Deep.RegionHeld3
namespace Go.Proofs.YtkbjampfmcegpaaDoor
set_option linter.unusedVariables false
open Go.RowKit

theorem mul_box {x y X Y : Int} (h1 : -X ≤ x) (h2 : x ≤ X) (h3 : -Y ≤ y) (h4 : y ≤ Y) : -(X * Y) ≤ x * y ∧ x * y ≤ X * Y := by
  have hX : 0 ≤ X := by omega
  rcases Int.le_total 0 x with hx | hx <;> rcases Int.le_total 0 y with hy | hy
  · have a := Int.mul_le_mul h2 h4 hy hX
    have b := Int.mul_nonneg hx hy
    omega
  · have a := Int.mul_le_mul h2 (show -y ≤ Y by omega) (by omega) hX
    have b := Int.mul_nonneg hx (show 0 ≤ -y by omega)
    rw [Int.mul_neg] at a b
    omega
  · have a := Int.mul_le_mul (show -x ≤ X by omega) h4 hy hX
    have b := Int.mul_nonneg (show 0 ≤ -x by omega) hy
    rw [Int.neg_mul] at a b
    omega
  · have a := Int.mul_le_mul (show -x ≤ X by omega) (show -y ≤ Y by omega) (by omega) hX
    have b := Int.mul_nonneg (show 0 ≤ -x by omega) (show 0 ≤ -y by omega)
    rw [Int.neg_mul_neg] at a b
    omega
/-- the vertical force -/
def vF (w f c a : Int) : Int := w + nr (w * f * (3 * c * c - 2 * a * c - 1000000)) 1000000000
/-- the horizontal force -/
def hF (w f c s a : Int) : Int := nr (w * f * (3 * c - 2 * a) * s) 1000000000
def vert (m f g d : Int) : Int := vF (wt m) f (cosF d) (cosF g)
def hori (m f g d : Int) : Int := hF (wt m) f (cosF d) (sinF d) (cosF g)
theorem wf_bd {w f : Int} (w0 : 0 ≤ w) (w1 : w ≤ 196200) (f0 : 1 ≤ f) (f1 : f ≤ 1000) : 0 ≤ w * f ∧ w * f ≤ 196200000 := by
  have := mul_box (show -196200 ≤ w by omega) w1 (show -1000 ≤ f by omega) f1
  have := Int.mul_nonneg w0 (show 0 ≤ f by omega)
  omega
theorem vF_bd {w f c a : Int} (w0 : 0 ≤ w) (w1 : w ≤ 196200) (f0 : 1 ≤ f) (f1 : f ≤ 1000) (c0 : -1000 ≤ c) (c1 : c ≤ 1000) (a0 : -1000 ≤ a) (a1 : a ≤ 1000) : (0 ≤ w * f ∧ w * f ≤ 196200000) ∧ (-3000000 ≤ 3 * c * c ∧ 3 * c * c ≤ 3000000) ∧ (-2000000 ≤ 2 * a * c ∧ 2 * a * c ≤ 2000000) ∧
    (-1177200000000000 ≤ w * f * (3 * c * c - 2 * a * c - 1000000) ∧ w * f * (3 * c * c - 2 * a * c - 1000000) ≤ 1177200000000000) := by
  have e1 := wf_bd w0 w1 f0 f1
  have e2 := mul_box (show -3000 ≤ 3 * c by omega) (show 3 * c ≤ 3000 by omega) (show -1000 ≤ c by omega) c1
  have e3 := mul_box (show -2000 ≤ 2 * a by omega) (show 2 * a ≤ 2000 by omega) (show -1000 ≤ c by omega) c1
  have e4 := mul_box (show -196200000 ≤ w * f by omega) e1.2 (show -6000000 ≤ 3 * c * c - 2 * a * c - 1000000 by omega) (show 3 * c * c - 2 * a * c - 1000000 ≤ 6000000 by omega)
  exact ⟨e1, by omega, by omega, by omega⟩
theorem vF_nr {w f c a : Int} (w0 : 0 ≤ w) (w1 : w ≤ 196200) (f0 : 1 ≤ f) (f1 : f ≤ 1000) (c0 : -1000 ≤ c) (c1 : c ≤ 1000) (a0 : -1000 ≤ a) (a1 : a ≤ 1000) : -1177200 ≤ nr (w * f * (3 * c * c - 2 * a * c - 1000000)) 1000000000 ∧ nr (w * f * (3 * c * c - 2 * a * c - 1000000)) 1000000000 ≤ 1177200 := by
  obtain ⟨_, _, _, h⟩ := vF_bd w0 w1 f0 f1 c0 c1 a0 a1
  exact ⟨nr_ge (c := 1177200) (by omega) (by omega) (by omega), nr_le (by omega) (by omega) (by omega)⟩
theorem hF_bd {w f c s a : Int} (w0 : 0 ≤ w) (w1 : w ≤ 196200) (f0 : 1 ≤ f) (f1 : f ≤ 1000) (c0 : -1000 ≤ c) (c1 : c ≤ 1000) (a0 : -1000 ≤ a) (a1 : a ≤ 1000) (s0 : -1000 ≤ s) (s1 : s ≤ 1000) : (0 ≤ w * f ∧ w * f ≤ 196200000) ∧ (-981000000000 ≤ w * f * (3 * c - 2 * a) ∧ w * f * (3 * c - 2 * a) ≤ 981000000000) ∧
    (-981000000000000 ≤ w * f * (3 * c - 2 * a) * s ∧ w * f * (3 * c - 2 * a) * s ≤ 981000000000000) := by
  have e1 := wf_bd w0 w1 f0 f1
  have e2 := mul_box (show -196200000 ≤ w * f by omega) e1.2 (show -5000 ≤ 3 * c - 2 * a by omega) (show 3 * c - 2 * a ≤ 5000 by omega)
  have e3 := mul_box (show -981000000000 ≤ w * f * (3 * c - 2 * a) by omega) (show w * f * (3 * c - 2 * a) ≤ 981000000000 by omega) (show -1000 ≤ s by omega) s1
  exact ⟨e1, by omega, by omega⟩

set_option maxHeartbeats 1000000 in
theorem vertical_calls (s : ByteArray) (m a f g d : Int) (w : World) (hT : HasTab w) (m0 : 1 ≤ m) (m1 : m ≤ 20000000) (f0 : 1 ≤ f) (f1 : f ≤ 1000) :
    Calls Tryd.prog 15 #[.agg #[.string s, .int .i64 m, .int .i64 a, .int .i64 f, .int .i64 g], .int .i64 d] w fun e w' => e = .returned (.int .i64 (vert m f g d)) ∧ Below w.heap.size w w' := by
  obtain ⟨b0, b1⟩ := wt_bd (show 0 ≤ m by omega) m1
  obtain ⟨c0, c1⟩ := cosF_bd d
  obtain ⟨g0, g1⟩ := cosF_bd g
  obtain ⟨⟨p1, p2⟩, ⟨p3, p4⟩, ⟨p5, p6⟩, p7, p8⟩ := vF_bd b0 b1 f0 f1 c0 c1 g0 g1
  obtain ⟨q1, q2⟩ := vF_nr b0 b1 f0 f1 c0 c1 g0 g1
  have HT := Lib.hid hT
  clear hT
  unfold vert vF
  go_enter Tryd.func15, Tryd.ntmps15
  go_wp2_with fail
  go_quiet ((first | (go_at_call 18; exact quiet_more (weightOf_calls _ _ (by omega) (by omega))) | (go_at_call 23; exact quiet_left (CosineOf_calls _ _ ((HT.out.alloc _).drewN _)))))
  go_wp2_with (go_at_call 24; refine (nearest_calls _ _ _ (by omega) (by omega) (by omega) (by omega)).mono ?_; rintro e w1 ⟨rfl, nd, rfl⟩)
  go_ret
  exact ⟨rfl, below_drewN ((Below.refl _ _).alloc (Nat.le_refl _) _) _⟩
set_option maxHeartbeats 1000000 in
theorem horizontal_calls (s : ByteArray) (m a f g d : Int) (w : World) (hT : HasTab w) (m0 : 1 ≤ m) (m1 : m ≤ 20000000) (f0 : 1 ≤ f) (f1 : f ≤ 1000) :
    Calls Tryd.prog 16 #[.agg #[.string s, .int .i64 m, .int .i64 a, .int .i64 f, .int .i64 g], .int .i64 d] w fun e w' => e = .returned (.int .i64 (hori m f g d)) ∧ Below w.heap.size w w' := by
  obtain ⟨b0, b1⟩ := wt_bd (show 0 ≤ m by omega) m1
  obtain ⟨c0, c1⟩ := cosF_bd d
  obtain ⟨g0, g1⟩ := cosF_bd g
  obtain ⟨s0, s1⟩ := sinF_bd d
  obtain ⟨⟨p1, p2⟩, ⟨p3, p4⟩, p5, p6⟩ := hF_bd b0 b1 f0 f1 c0 c1 g0 g1 s0 s1
  have HT := Lib.hid hT
  clear hT
  unfold hori hF
  go_enter Tryd.func16, Tryd.ntmps16
  go_wp2_with fail
  go_quiet ((first | (go_at_call 18; exact quiet_more (weightOf_calls _ _ (by omega) (by omega))) | (go_at_call 23; exact quiet_left (CosineOf_calls _ _ ((HT.out.alloc _).drewN _))) | (go_at_call 25; exact quiet_left (SineOf_calls _ _ ((HT.out.alloc _).drewN _)))))
  go_wp2_with (go_at_call 24; refine (nearest_calls _ _ _ (by omega) (by omega) (by omega) (by omega)).mono ?_; rintro e w1 ⟨rfl, nd, rfl⟩)
  go_ret
  exact ⟨rfl, below_drewN ((Below.refl _ _).alloc (Nat.le_refl _) _) _⟩

end Go.Proofs.YtkbjampfmcegpaaDoor
