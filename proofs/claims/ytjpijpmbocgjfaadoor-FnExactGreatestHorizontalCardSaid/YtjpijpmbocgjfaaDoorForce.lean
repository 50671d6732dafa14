/- The forces of a hung bell at an angle, in the program and in the reference. For every valid hung bell and every angle, where the table of sines reads as its initialiser lays it. -/
import Derived.Test.YtjpijpmbocgjfaaDoorHung
import Derived.Test.YtjpijpmbocgjfaaDoorWeight
import Derived.Test.YtjpijpmbocgjfaaDoorSine
import Derived.Deep.RegionHeld3
namespace Go.Proofs.YtjpijpmbocgjfaaDoor
set_option linter.unusedVariables false
open Go.RowKit

theorem mul_box {x y X Y : Int} (h1 : -X ≤ x) (h2 : x ≤ X) (h3 : -Y ≤ y) (h4 : y ≤ Y) : -(X * Y) ≤ x * y ∧ x * y ≤ X * Y := by
  have hX : 0 ≤ X := by omega
  rcases Int.le_total 0 x with hx | hx <;> rcases Int.le_total 0 y with hy | hy
  · have a := Int.mul_le_mul h2 h4 hy hX
    have b := Int.mul_nonneg hx hy
    omega
  · have a := Int.mul_le_mul h2 (show -y ≤ Y by omega) (by omega) hX
    have b := Int.mul_nonneg hx (show 0 ≤ -y by omega)
    rw [Int.mul_neg] at a b
    omega
  · have a := Int.mul_le_mul (show -x ≤ X by omega) h4 hy hX
    have b := Int.mul_nonneg (show 0 ≤ -x by omega) hy
    rw [Int.neg_mul] at a b
    omega
  · have a := Int.mul_le_mul (show -x ≤ X by omega) (show -y ≤ Y by omega) (by omega) hX
    have b := Int.mul_nonneg (show 0 ≤ -x by omega) (show 0 ≤ -y by omega)
    rw [Int.neg_mul_neg] at a b
    omega
theorem cell_lt {w : World} {b o : Nat} {v : Value} (h : w.cell? ⟨b, o, none⟩ = some v) : b < w.heap.size := by
  rcases Nat.lt_or_ge b w.heap.size with h1 | h1
  · exact h1
  · simp [World.cell?, Array.getElem?_eq_none h1] at h
/-- the vertical force -/
def vF (w f c a : Int) : Int := w + nr (w * f * (3 * c * c - 2 * a * c - 1000000)) 1000000000
/-- the horizontal force -/
def hF (w f c s a : Int) : Int := nr (w * f * (3 * c - 2 * a) * s) 1000000000
def vert (m f g d : Int) : Int := vF (wt m) f (cosF d) (cosF g)
def hori (m f g d : Int) : Int := hF (wt m) f (cosF d) (sinF d) (cosF g)
theorem wf_bd {w f : Int} (w0 : 0 ≤ w) (w1 : w ≤ 196200) (f0 : 1 ≤ f) (f1 : f ≤ 1000) : 0 ≤ w * f ∧ w * f ≤ 196200000 := by
  have := mul_box (show -196200 ≤ w by omega) w1 (show -1000 ≤ f by omega) f1
  have := Int.mul_nonneg w0 (show 0 ≤ f by omega)
  omega
theorem vF_bd {w f c a : Int} (w0 : 0 ≤ w) (w1 : w ≤ 196200) (f0 : 1 ≤ f) (f1 : f ≤ 1000) (c0 : -1000 ≤ c) (c1 : c ≤ 1000) (a0 : -1000 ≤ a) (a1 : a ≤ 1000) : (0 ≤ w * f ∧ w * f ≤ 196200000) ∧ (-3000000 ≤ 3 * c * c ∧ 3 * c * c ≤ 3000000) ∧ (-2000000 ≤ 2 * a * c ∧ 2 * a * c ≤ 2000000) ∧
    (-1177200000000000 ≤ w * f * (3 * c * c - 2 * a * c - 1000000) ∧ w * f * (3 * c * c - 2 * a * c - 1000000) ≤ 1177200000000000) := by
  have e1 := wf_bd w0 w1 f0 f1
  have e2 := mul_box (show -3000 ≤ 3 * c by omega) (show 3 * c ≤ 3000 by omega) (show -1000 ≤ c by omega) c1
  have e3 := mul_box (show -2000 ≤ 2 * a by omega) (show 2 * a ≤ 2000 by omega) (show -1000 ≤ c by omega) c1
  have e4 := mul_box (show -196200000 ≤ w * f by omega) e1.2 (show -6000000 ≤ 3 * c * c - 2 * a * c - 1000000 by omega) (show 3 * c * c - 2 * a * c - 1000000 ≤ 6000000 by omega)
  exact ⟨e1, by omega, by omega, by omega⟩
theorem vF_nr {w f c a : Int} (w0 : 0 ≤ w) (w1 : w ≤ 196200) (f0 : 1 ≤ f) (f1 : f ≤ 1000) (c0 : -1000 ≤ c) (c1 : c ≤ 1000) (a0 : -1000 ≤ a) (a1 : a ≤ 1000) : -1177200 ≤ nr (w * f * (3 * c * c - 2 * a * c - 1000000)) 1000000000 ∧ nr (w * f * (3 * c * c - 2 * a * c - 1000000)) 1000000000 ≤ 1177200 := by
  obtain ⟨_, _, _, h⟩ := vF_bd w0 w1 f0 f1 c0 c1 a0 a1
  exact ⟨nr_ge (c := 1177200) (by omega) (by omega) (by omega), nr_le (by omega) (by omega) (by omega)⟩
theorem hF_bd {w f c s a : Int} (w0 : 0 ≤ w) (w1 : w ≤ 196200) (f0 : 1 ≤ f) (f1 : f ≤ 1000) (c0 : -1000 ≤ c) (c1 : c ≤ 1000) (a0 : -1000 ≤ a) (a1 : a ≤ 1000) (s0 : -1000 ≤ s) (s1 : s ≤ 1000) : (0 ≤ w * f ∧ w * f ≤ 196200000) ∧ (-981000000000 ≤ w * f * (3 * c - 2 * a) ∧ w * f * (3 * c - 2 * a) ≤ 981000000000) ∧
    (-981000000000000 ≤ w * f * (3 * c - 2 * a) * s ∧ w * f * (3 * c - 2 * a) * s ≤ 981000000000000) := by
  have e1 := wf_bd w0 w1 f0 f1
  have e2 := mul_box (show -196200000 ≤ w * f by omega) e1.2 (show -5000 ≤ 3 * c - 2 * a by omega) (show 3 * c - 2 * a ≤ 5000 by omega)
  have e3 := mul_box (show -981000000000 ≤ w * f * (3 * c - 2 * a) by omega) (show w * f * (3 * c - 2 * a) ≤ 981000000000 by omega) (show -1000 ≤ s by omega) s1
  exact ⟨e1, by omega, by omega⟩

set_option maxHeartbeats 1000000 in
theorem vertical_calls (s : ByteArray) (m a f g d : Int) (w : World) (hT : HasTab w) (m0 : 1 ≤ m) (m1 : m ≤ 20000000) (f0 : 1 ≤ f) (f1 : f ≤ 1000) :
    Calls Tryd.prog 37 #[.agg #[.string s, .int .i64 m, .int .i64 a, .int .i64 f, .int .i64 g], .int .i64 d] w fun e w' => e = .returned (.int .i64 (vert m f g d)) ∧ Below w.heap.size w w' := by
  obtain ⟨b0, b1⟩ := wt_bd (show 0 ≤ m by omega) m1
  obtain ⟨c0, c1⟩ := cosF_bd d
  obtain ⟨g0, g1⟩ := cosF_bd g
  obtain ⟨⟨p1, p2⟩, ⟨p3, p4⟩, ⟨p5, p6⟩, p7, p8⟩ := vF_bd b0 b1 f0 f1 c0 c1 g0 g1
  obtain ⟨q1, q2⟩ := vF_nr b0 b1 f0 f1 c0 c1 g0 g1
  have HT := Lib.hid hT
  clear hT
  unfold vert vF
  go_enter Tryd.func37, Tryd.ntmps37
  go_wp2_with fail
  go_quiet ((first | (go_at_call 50; exact quiet_more (weightOf_calls _ _ (by omega) (by omega))) | (go_at_call 14; exact quiet_left (CosineOf_calls _ _ ((HT.out.alloc _).drewN _)))))
  go_wp2_with (go_at_call 51; refine (nearest_calls _ _ _ (by omega) (by omega) (by omega) (by omega)).mono ?_; rintro e w1 ⟨rfl, nd, rfl⟩)
  go_ret
  exact ⟨rfl, below_drewN ((Below.refl _ _).alloc (Nat.le_refl _) _) _⟩
set_option maxHeartbeats 1000000 in
theorem horizontal_calls (s : ByteArray) (m a f g d : Int) (w : World) (hT : HasTab w) (m0 : 1 ≤ m) (m1 : m ≤ 20000000) (f0 : 1 ≤ f) (f1 : f ≤ 1000) :
    Calls Tryd.prog 35 #[.agg #[.string s, .int .i64 m, .int .i64 a, .int .i64 f, .int .i64 g], .int .i64 d] w fun e w' => e = .returned (.int .i64 (hori m f g d)) ∧ Below w.heap.size w w' := by
  obtain ⟨b0, b1⟩ := wt_bd (show 0 ≤ m by omega) m1
  obtain ⟨c0, c1⟩ := cosF_bd d
  obtain ⟨g0, g1⟩ := cosF_bd g
  obtain ⟨s0, s1⟩ := sinF_bd d
  obtain ⟨⟨p1, p2⟩, ⟨p3, p4⟩, p5, p6⟩ := hF_bd b0 b1 f0 f1 c0 c1 g0 g1 s0 s1
  have HT := Lib.hid hT
  clear hT
  unfold hori hF
  go_enter Tryd.func35, Tryd.ntmps35
  go_wp2_with fail
  go_quiet ((first | (go_at_call 50; exact quiet_more (weightOf_calls _ _ (by omega) (by omega))) | (go_at_call 14; exact quiet_left (CosineOf_calls _ _ ((HT.out.alloc _).drewN _))) | (go_at_call 12; exact quiet_left (SineOf_calls _ _ ((HT.out.alloc _).drewN _)))))
  go_wp2_with (go_at_call 51; refine (nearest_calls _ _ _ (by omega) (by omega) (by omega) (by omega)).mono ?_; rintro e w1 ⟨rfl, nd, rfl⟩)
  go_ret
  exact ⟨rfl, below_drewN ((Below.refl _ _).alloc (Nat.le_refl _) _) _⟩

set_option maxHeartbeats 2000000 in
theorem shorizontal_calls (m f g d : Int) (b : Nat) (w : World) (m0 : 1 ≤ m) (m1 : m ≤ 20000000) (f0 : 1 ≤ f) (f1 : f ≤ 1000) (x1 : w.cell? ⟨b, 1, none⟩ = some (.int .i64 m)) (x3 : w.cell? ⟨b, 3, none⟩ = some (.int .i64 f)) (x4 : w.cell? ⟨b, 4, none⟩ = some (.int .i64 g)) :
    Calls Tryd.prog 33 #[.pointer (some ⟨b, 0, none⟩), .int .i64 d] w fun e w' => e = .returned (.int .i64 (hori m f g d)) ∧ Below w.heap.size w w' := by
  obtain ⟨b0, b1⟩ := wt_bd (show 0 ≤ m by omega) m1
  obtain ⟨c0, c1⟩ := cosF_bd d
  obtain ⟨g0, g1⟩ := cosF_bd g
  obtain ⟨s0, s1⟩ := sinF_bd d
  obtain ⟨⟨p1, p2⟩, ⟨p3, p4⟩, p5, p6⟩ := hF_bd b0 b1 f0 f1 c0 c1 g0 g1 s0 s1
  have hbw := cell_lt x1
  have hB := Below.refl w.heap.size w
  unfold hori hF
  have u1 : IntKind.i64.wrap (wt m * f) = wt m * f := IntWalk.i64_in _ ⟨by omega, by omega⟩
  have u2 : IntKind.i64.wrap (3 * cosF d) = 3 * cosF d := IntWalk.i64_in _ ⟨by omega, by omega⟩
  have u3 : IntKind.i64.wrap (2 * cosF g) = 2 * cosF g := IntWalk.i64_in _ ⟨by omega, by omega⟩
  have u4 : IntKind.i64.wrap (3 * cosF d - 2 * cosF g) = 3 * cosF d - 2 * cosF g := IntWalk.i64_in _ ⟨by omega, by omega⟩
  have u5 : IntKind.i64.wrap (wt m * f * (3 * cosF d - 2 * cosF g)) = wt m * f * (3 * cosF d - 2 * cosF g) := IntWalk.i64_in _ ⟨by omega, by omega⟩
  have u6 : IntKind.i64.wrap (wt m * f * (3 * cosF d - 2 * cosF g) * sinF d) = wt m * f * (3 * cosF d - 2 * cosF g) * sinF d := IntWalk.i64_in _ ⟨by omega, by omega⟩
  go_enter Tryd.func33, Tryd.ntmps33
  go_wp2_with fail
  go_region_held3 (fun w' => Below w.heap.size w w' ∧ w'.cell? ⟨b, 1, none⟩ = some (.int .i64 m) ∧ w'.cell? ⟨b, 3, none⟩ = some (.int .i64 f) ∧ w'.cell? ⟨b, 4, none⟩ = some (.int .i64 g))
    (first | exact ⟨hB.drew, x1, x3, x4⟩ | assumption | (obtain ⟨y0, y1, y2, y3⟩ := ‹Below _ _ _ ∧ _›; exact ⟨y0.trans (hb.mono y0.size), (hb.cell (p := ⟨_, _, none⟩) (Nat.lt_of_lt_of_le hbw y0.size)).trans y1, (hb.cell (p := ⟨_, _, none⟩) (Nat.lt_of_lt_of_le hbw y0.size)).trans y2, (hb.cell (p := ⟨_, _, none⟩) (Nat.lt_of_lt_of_le hbw y0.size)).trans y3⟩) | (obtain ⟨y0, y1, y2, y3⟩ := ‹Below _ _ _ ∧ _›; exact ⟨below_drewN y0 _, y1, y2, y3⟩))
    (first
      | (go_at_call 48; refine (sweight_calls _ _ (by omega) (by omega)).mono ?_; rintro e w1 ⟨rfl, rfl⟩)
      | (go_at_call 31; refine (sCosine_calls _ _).mono ?_; rintro e w1 ⟨rfl, hb⟩)
      | (go_at_call 29; refine (sSine_calls _ _).mono ?_; rintro e w1 ⟨rfl, hb⟩)
      | (go_at_call 47; refine (div_calls _ _ _ (by omega) (by omega) (by omega) (by omega)).mono ?_; rintro e w1 ⟨rfl, rfl⟩))
  clear u1 u2 u3 u4 u5 u6
  have hfin := (‹Below _ _ _ ∧ _›).1
  go_wp2
  go_ret
  exact ⟨rfl, hfin⟩
set_option maxHeartbeats 2000000 in
theorem svertical_calls (m f g d : Int) (b : Nat) (w : World) (m0 : 1 ≤ m) (m1 : m ≤ 20000000) (f0 : 1 ≤ f) (f1 : f ≤ 1000) (x1 : w.cell? ⟨b, 1, none⟩ = some (.int .i64 m)) (x3 : w.cell? ⟨b, 3, none⟩ = some (.int .i64 f)) (x4 : w.cell? ⟨b, 4, none⟩ = some (.int .i64 g)) :
    Calls Tryd.prog 36 #[.pointer (some ⟨b, 0, none⟩), .int .i64 d] w fun e w' => e = .returned (.int .i64 (vert m f g d)) ∧ Below w.heap.size w w' := by
  obtain ⟨b0, b1⟩ := wt_bd (show 0 ≤ m by omega) m1
  obtain ⟨c0, c1⟩ := cosF_bd d
  obtain ⟨g0, g1⟩ := cosF_bd g
  obtain ⟨⟨p1, p2⟩, ⟨p3, p4⟩, ⟨p5, p6⟩, p7, p8⟩ := vF_bd b0 b1 f0 f1 c0 c1 g0 g1
  obtain ⟨q1, q2⟩ := vF_nr b0 b1 f0 f1 c0 c1 g0 g1
  have hbw := cell_lt x1
  have hB := Below.refl w.heap.size w
  unfold vert vF
  have u1 := Lib.hid (show IntKind.i64.wrap (wt m * f) = wt m * f from IntWalk.i64_in _ ⟨by omega, by omega⟩)
  have u2 := Lib.hid (show IntKind.i64.wrap (3 * cosF d) = 3 * cosF d from IntWalk.i64_in _ ⟨by omega, by omega⟩)
  have u3 := Lib.hid (show IntKind.i64.wrap (2 * cosF g) = 2 * cosF g from IntWalk.i64_in _ ⟨by omega, by omega⟩)
  have u4 := Lib.hid (show IntKind.i64.wrap (3 * cosF d * cosF d) = 3 * cosF d * cosF d from IntWalk.i64_in _ ⟨by omega, by omega⟩)
  have u5 := Lib.hid (show IntKind.i64.wrap (2 * cosF g * cosF d) = 2 * cosF g * cosF d from IntWalk.i64_in _ ⟨by omega, by omega⟩)
  have u6 := Lib.hid (show IntKind.i64.wrap (3 * cosF d * cosF d - 2 * cosF g * cosF d) = 3 * cosF d * cosF d - 2 * cosF g * cosF d from IntWalk.i64_in _ ⟨by omega, by omega⟩)
  have u7 := Lib.hid (show IntKind.i64.wrap (3 * cosF d * cosF d - 2 * cosF g * cosF d - 1000000) = 3 * cosF d * cosF d - 2 * cosF g * cosF d - 1000000 from IntWalk.i64_in _ ⟨by omega, by omega⟩)
  have u8 := Lib.hid (show IntKind.i64.wrap (wt m * f * (3 * cosF d * cosF d - 2 * cosF g * cosF d - 1000000)) = wt m * f * (3 * cosF d * cosF d - 2 * cosF g * cosF d - 1000000) from IntWalk.i64_in _ ⟨by omega, by omega⟩)
  have u9 := Lib.hid (show IntKind.i64.wrap (wt m + nr (wt m * f * (3 * cosF d * cosF d - 2 * cosF g * cosF d - 1000000)) 1000000000) = wt m + nr (wt m * f * (3 * cosF d * cosF d - 2 * cosF g * cosF d - 1000000)) 1000000000 from IntWalk.i64_in _ ⟨by omega, by omega⟩)
  go_enter Tryd.func36, Tryd.ntmps36
  go_wp2_with (first
    | (go_at_call 48; refine (sweight_calls _ _ (by omega) (by omega)).mono ?_; rintro e w1 ⟨rfl, rfl⟩)
    | (go_at_call 31; refine (sCosine_calls d _).mono ?_; rintro e w1 ⟨rfl, hb⟩; replace x1 := (hb.cell (p := ⟨_, _, none⟩) hbw).trans x1; replace x3 := (hb.cell (p := ⟨_, _, none⟩) hbw).trans x3; replace x4 := (hb.cell (p := ⟨_, _, none⟩) hbw).trans x4; replace hB := hb; clear hb))
  have v1 := u1.out
  have v2 := u2.out
  have v3 := u3.out
  have v4 := u4.out
  have v5 := u5.out
  have v6 := u6.out
  have v7 := u7.out
  have v8 := u8.out
  have v9 := u9.out
  clear u1 u2 u3 u4 u5 u6 u7 u8 u9
  go_region_held3 (fun w' => Below w.heap.size w w' ∧ w'.cell? ⟨b, 1, none⟩ = some (.int .i64 m) ∧ w'.cell? ⟨b, 3, none⟩ = some (.int .i64 f) ∧ w'.cell? ⟨b, 4, none⟩ = some (.int .i64 g))
    (first | exact ⟨hB.drew, x1, x3, x4⟩ | assumption | (obtain ⟨y0, y1, y2, y3⟩ := ‹Below _ _ _ ∧ _›; exact ⟨y0.trans (hb.mono y0.size), (hb.cell (p := ⟨_, _, none⟩) (Nat.lt_of_lt_of_le hbw y0.size)).trans y1, (hb.cell (p := ⟨_, _, none⟩) (Nat.lt_of_lt_of_le hbw y0.size)).trans y2, (hb.cell (p := ⟨_, _, none⟩) (Nat.lt_of_lt_of_le hbw y0.size)).trans y3⟩) | (obtain ⟨y0, y1, y2, y3⟩ := ‹Below _ _ _ ∧ _›; exact ⟨below_drewN y0 _, y1, y2, y3⟩))
    (first
      | (go_at_call 31; refine (sCosine_calls _ _).mono ?_; rintro e w2 ⟨rfl, hb⟩)
      | (go_at_call 47; refine (div_calls _ _ _ (by omega) (by omega) (by omega) (by omega)).mono ?_; rintro e w2 ⟨rfl, rfl⟩))
  clear v1 v2 v3 v4 v5 v6 v7 v8 v9
  have hfin := (‹Below _ _ _ ∧ _›).1
  go_wp2
  go_ret
  exact ⟨rfl, hfin⟩
end Go.Proofs.YtjpijpmbocgjfaaDoor
