/- Cooling: half times, temperatures, the time to a temperature, in the program and in the reference. For all thicknesses and times in range. -/
import Derived.Test.YtaanlkdpconfiaaPred
import Derived.Deep.RegionHeld3
namespace Go.Proofs.Ytaanlkdpconfiaa
set_option linter.unusedVariables false
open Go.RowKit

/-- the half time of a thickness -/
def hf (t : Int) : Int := 30 + t * t / 200000
theorem sq_bd {t : Int} (h0 : 1 ≤ t) (h1 : t ≤ 30000) : 1 ≤ t * t ∧ t * t ≤ 900000000 := by
  have a := Int.mul_le_mul h1 h1 (by omega) (by omega)
  have b := Int.mul_le_mul h0 h0 (by omega) (by omega)
  omega
theorem hf_bd {t : Int} (h0 : 1 ≤ t) (h1 : t ≤ 30000) : 30 ≤ hf t ∧ hf t ≤ 4530 := by
  have := sq_bd h0 h1
  unfold hf
  omega
/-- the temperature after k half times -/
def ah (k : Nat) : Int := 20 + 1130 / (2 : Int) ^ k
theorem ah_bd (k : Nat) : 20 ≤ ah k ∧ ah k ≤ 1150 := by
  have h0 : (0 : Int) < 2 ^ k := Int.pow_pos (by omega)
  have h1 := Int.ediv_nonneg (show (0 : Int) ≤ 1130 by omega) (show (0 : Int) ≤ 2 ^ k by omega)
  have h2 := Int.ediv_le_self ((2 : Int) ^ k) (show (0 : Int) ≤ 1130 by omega)
  unfold ah
  omega
theorem ah_late {k : Nat} (h : 11 ≤ k) : ah k = 20 := by
  have h0 : (1130 : Int) < 2 ^ k := by
    have h2 : (2 : Nat) ^ 11 ≤ 2 ^ k := Nat.pow_le_pow_right (by omega) h
    have h3 : ((2 ^ k : Nat) : Int) = (2 : Int) ^ k := by rw [Int.natCast_pow]; rfl
    have h4 : (2 : Nat) ^ 11 = 2048 := by decide
    omega
  unfold ah
  rw [Int.ediv_eq_zero_of_lt (by omega) h0]
  rfl
/-- the line through two points -/
def lineF (x0 y0 x1 y1 x : Int) : Int := if x ≤ x0 ∨ x1 ≤ x0 then y0 else if x1 ≤ x then y1 else y0 + nr ((y1 - y0) * (x - x0)) (x1 - x0)
/-- the temperature after a time -/
def tp (thick t : Int) : Int := lineF 0 (ah (t / hf thick).toNat) (hf thick) (ah ((t / hf thick).toNat + 1)) (t % hf thick)

set_option maxHeartbeats 400000 in
theorem halfTime_calls (t : Int) (w : World) (h0 : 1 ≤ t) (h1 : t ≤ 30000) :
    Calls Try.prog 184 #[.int .i64 t] w fun e w' => e = .returned (.int .i64 (hf t)) ∧ w = w' := by
  obtain ⟨b0, b1⟩ := sq_bd h0 h1
  unfold hf
  go_enter Try.func184, Try.ntmps184
  go_wp2
  go_ret
  exact ⟨rfl, rfl⟩
set_option maxHeartbeats 400000 in
theorem shalf_calls (t : Int) (w : World) (h0 : 1 ≤ t) (h1 : t ≤ 30000) :
    Calls Try.prog 178 #[.int .i64 t] w fun e w' => e = .returned (.int .i64 (hf t)) ∧ w = w' := by
  obtain ⟨b0, b1⟩ := sq_bd h0 h1
  unfold hf
  go_enter Try.func178, Try.ntmps178
  go_wp2
  go_ret
  exact ⟨rfl, rfl⟩
def htV (t : Int) : Int := if inB t 1 30000 = true then hf t else 0
def htC (t : Int) : Int := if inB t 1 30000 = true then 0 else 2

theorem ah_half {r : Int} {j : Nat} (h : r = 1130 / (2 : Int) ^ j) : r / 2 = 1130 / (2 : Int) ^ (j + 1) := by
  have h0 : (0 : Int) < 2 ^ j := Int.pow_pos (by omega)
  rw [h, Int.ediv_ediv, if_neg (fun q => by omega), Int.pow_succ]
  omega
theorem ah_stop {r : Int} {j k : Nat} (h : r = 1130 / (2 : Int) ^ j) (hr : r ≤ 0) (hj : j ≤ k) : 20 + r = ah k := by
  have h0 : (0 : Int) < 2 ^ j := Int.pow_pos (by omega)
  have h1 := Int.ediv_nonneg (show (0 : Int) ≤ 1130 by omega) (show (0 : Int) ≤ 2 ^ j by omega)
  have hr0 : r = 0 := by omega
  have hlt : (1130 : Int) < 2 ^ j := by
    rcases Int.lt_or_le 1130 ((2 : Int) ^ j) with a | a
    · exact a
    · have := Int.le_ediv_of_mul_le h0 (show 1 * (2 : Int) ^ j ≤ 1130 by omega)
      omega
  have hle : (2 : Int) ^ j ≤ 2 ^ k := by
    have h2 : (2 : Nat) ^ j ≤ 2 ^ k := Nat.pow_le_pow_right (by omega) hj
    have h3 : ((2 ^ j : Nat) : Int) = (2 : Int) ^ j := by rw [Int.natCast_pow]; rfl
    have h4 : ((2 ^ k : Nat) : Int) = (2 : Int) ^ k := by rw [Int.natCast_pow]; rfl
    omega
  unfold ah
  rw [Int.ediv_eq_zero_of_lt (by omega) (by omega)]
  omega
theorem ah_start {r : Int} {j : Nat} (h : r = 1130 / (2 : Int) ^ j) : 0 ≤ r ∧ r ≤ 1130 := by
  have h0 : (0 : Int) < 2 ^ j := Int.pow_pos (by omega)
  have h1 := Int.ediv_nonneg (show (0 : Int) ≤ 1130 by omega) (show (0 : Int) ≤ 2 ^ j by omega)
  have h2 := Int.ediv_le_self ((2 : Int) ^ j) (show (0 : Int) ≤ 1130 by omega)
  omega
set_option maxHeartbeats 400000 in
theorem safter_calls (n : Int) (w : World) (h0 : 0 ≤ n) (h1 : n ≤ 1000000000) :
    Calls Try.prog 195 #[.int .i64 n] w fun e w' => e = .returned (.int .i64 (ah n.toNat)) ∧ w = w' := by
  obtain ⟨k, rfl⟩ := Int.eq_ofNat_of_zero_le h0
  rw [Int.toNat_natCast]
  go_enter Try.func195, Try.ntmps195
  go_wp2
  go_loop [0, 3] (fun c t => ∃ (j : Nat) (r : Int), j ≤ k ∧ c = .int .i64 ((k : Int) - j) ∧ t = .int .i64 r ∧ Hid (r = 1130 / (2 : Int) ^ j)) (fun c _ => (intOf c).toNat)
  case atStart => exact ⟨0, 1130, by omega, by simp, rfl, by simp [Hid]⟩
  case round =>
    obtain ⟨j, r, hj, rfl, rfl, hr⟩ := hrel
    obtain ⟨b0, b1⟩ := ah_start hr.out
    by_cases hk : 0 < (k : Int) - j
    · by_cases h2 : 0 < r
      · have hr2 := Lib.hid (ah_half hr.out)
        clear hr
        go_wp2
        go_round
        case rel => exact ⟨j + 1, r / 2, by omega, by congr 1; omega, rfl, hr2⟩
        case measure => simp [intOf]; omega
      · have hr2 := Lib.hid (ah_stop hr.out (by omega) hj)
        clear hr
        go_wp2
        go_ret
        exact ⟨ret_int hr2.out, rfl⟩
    · obtain rfl : j = k := by omega
      have hr2 : Hid (20 + r = ah j) := by rw [hr.out]; rfl
      clear hr
      go_wp2
      go_ret
      exact ⟨ret_int hr2.out, rfl⟩
set_option maxHeartbeats 400000 in
theorem afterHalves_calls (n : Int) (w : World) (h0 : 0 ≤ n) (h1 : n ≤ 1000000000) :
    Calls Try.prog 197 #[.int .i64 n] w fun e w' => e = .returned (.int .i64 (ah n.toNat)) ∧ w = w' := by
  obtain ⟨b0, b1⟩ := ah_start (rfl : 1130 / (2 : Int) ^ n.toNat = 1130 / (2 : Int) ^ n.toNat)
  by_cases h : n ≤ 60
  · go_enter Try.func197, Try.ntmps197
    go_wp2
    go_ret
    exact ⟨rfl, rfl⟩
  · rw [ah_late (show 11 ≤ n.toNat by omega)]
    clear b0 b1
    go_enter Try.func197, Try.ntmps197
    go_wp2
    go_ret
    exact ⟨rfl, rfl⟩
theorem line_mul {x0 y0 x1 y1 x : Int} (hx0 : -1000000 ≤ x0) (hx1 : x0 ≤ 1000000) (hy0 : -1000000 ≤ y0) (hy1 : y0 ≤ 1000000) (hu0 : -1000000 ≤ x1) (hu1 : x1 ≤ 1000000) (hv0 : -1000000 ≤ y1) (hv1 : y1 ≤ 1000000) (h : x0 < x) (h2 : x < x1) : -4000000000000 ≤ (y1 - y0) * (x - x0) ∧ (y1 - y0) * (x - x0) ≤ 4000000000000 := by
  have a : 0 ≤ x - x0 := by omega
  have b : x - x0 ≤ 2000000 := by omega
  by_cases c : 0 ≤ y1 - y0
  · have d := Int.mul_le_mul (show y1 - y0 ≤ 2000000 by omega) b a (by omega)
    have f := Int.mul_nonneg c a
    omega
  · have d := Int.mul_le_mul (show -(y1 - y0) ≤ 2000000 by omega) b a (by omega)
    have f := Int.mul_nonneg (show 0 ≤ -(y1 - y0) by omega) a
    rw [Int.neg_mul] at d f
    omega
theorem line_nr {a b : Int} (h0 : -4000000000000 ≤ a) (h1 : a ≤ 4000000000000) (hb : 1 ≤ b) : -4000000000000 ≤ nr a b ∧ nr a b ≤ 4000000000000 := by
  have q := Int.mul_le_mul_of_nonneg_left hb (show (0 : Int) ≤ 4000000000000 by omega)
  exact ⟨nr_ge (c := 4000000000000) (by omega) (by omega) (by omega), nr_le (by omega) (by omega) (by omega)⟩
set_option maxHeartbeats 1000000 in
theorem blend_calls (x0 y0 x1 y1 x : Int) (w : World) (hx0 : -1000000 ≤ x0) (hx1 : x0 ≤ 1000000) (hy0 : -1000000 ≤ y0) (hy1 : y0 ≤ 1000000) (hu0 : -1000000 ≤ x1) (hu1 : x1 ≤ 1000000) (hv0 : -1000000 ≤ y1) (hv1 : y1 ≤ 1000000) :
    Calls Try.prog 196 #[.int .i64 x0, .int .i64 y0, .int .i64 x1, .int .i64 y1, .int .i64 x] w fun e w' => e = .returned (.int .i64 (lineF x0 y0 x1 y1 x)) ∧ ∃ n, w' = w.drewN n := by
  by_cases h1 : x ≤ x0
  · rw [show lineF x0 y0 x1 y1 x = y0 by unfold lineF; rw [if_pos (.inl h1)]]
    go_enter Try.func196, Try.ntmps196
    go_wp2
    go_ret
    exact ⟨rfl, 0, rfl⟩
  · by_cases h2 : x1 ≤ x0
    · rw [show lineF x0 y0 x1 y1 x = y0 by unfold lineF; rw [if_pos (.inr h2)]]
      go_enter Try.func196, Try.ntmps196
      go_wp2
      go_ret
      exact ⟨rfl, 0, rfl⟩
    · by_cases h3 : x1 ≤ x
      · rw [show lineF x0 y0 x1 y1 x = y1 by unfold lineF; rw [if_neg (by omega), if_pos h3]]
        go_enter Try.func196, Try.ntmps196
        go_wp2
        go_ret
        exact ⟨rfl, 0, rfl⟩
      · rw [show lineF x0 y0 x1 y1 x = y0 + nr ((y1 - y0) * (x - x0)) (x1 - x0) by unfold lineF; rw [if_neg (by omega), if_neg h3]]
        obtain ⟨q0, q1⟩ := line_mul hx0 hx1 hy0 hy1 hu0 hu1 hv0 hv1 (by omega) (show x < x1 by omega)
        obtain ⟨q2, q3⟩ := line_nr q0 q1 (show 1 ≤ x1 - x0 by omega)
        go_enter Try.func196, Try.ntmps196
        go_wp2_with (go_at_call 170; refine (nearest_calls _ _ _ (by omega) (by omega) (by omega) (by omega)).mono ?_; rintro e w1 ⟨rfl, nd, rfl⟩)
        go_ret
        exact ⟨rfl, _, rfl⟩
set_option maxHeartbeats 1000000 in
theorem sline_calls (x0 y0 x1 y1 x : Int) (w : World) (hx0 : -1000000 ≤ x0) (hx1 : x0 ≤ 1000000) (hy0 : -1000000 ≤ y0) (hy1 : y0 ≤ 1000000) (hu0 : -1000000 ≤ x1) (hu1 : x1 ≤ 1000000) (hv0 : -1000000 ≤ y1) (hv1 : y1 ≤ 1000000) :
    Calls Try.prog 200 #[.int .i64 x0, .int .i64 y0, .int .i64 x1, .int .i64 y1, .int .i64 x] w fun e w' => e = .returned (.int .i64 (lineF x0 y0 x1 y1 x)) ∧ ∃ n, w' = w.drewN n := by
  by_cases h1 : x ≤ x0
  · rw [show lineF x0 y0 x1 y1 x = y0 by unfold lineF; rw [if_pos (.inl h1)]]
    go_enter Try.func200, Try.ntmps200
    go_wp2
    go_ret
    exact ⟨rfl, 0, rfl⟩
  · by_cases h2 : x1 ≤ x0
    · rw [show lineF x0 y0 x1 y1 x = y0 by unfold lineF; rw [if_pos (.inr h2)]]
      go_enter Try.func200, Try.ntmps200
      go_wp2
      go_ret
      exact ⟨rfl, 0, rfl⟩
    · by_cases h3 : x1 ≤ x
      · rw [show lineF x0 y0 x1 y1 x = y1 by unfold lineF; rw [if_neg (by omega), if_pos h3]]
        go_enter Try.func200, Try.ntmps200
        go_wp2
        go_ret
        exact ⟨rfl, 0, rfl⟩
      · rw [show lineF x0 y0 x1 y1 x = y0 + nr ((y1 - y0) * (x - x0)) (x1 - x0) by unfold lineF; rw [if_neg (by omega), if_neg h3]]
        obtain ⟨q0, q1⟩ := line_mul hx0 hx1 hy0 hy1 hu0 hu1 hv0 hv1 (by omega) (show x < x1 by omega)
        obtain ⟨q2, q3⟩ := line_nr q0 q1 (show 1 ≤ x1 - x0 by omega)
        go_enter Try.func200, Try.ntmps200
        go_wp2_with (go_at_call 166; refine (div_calls _ _ _ (by omega) (by omega) (by omega) (by omega)).mono ?_; rintro e w1 ⟨rfl, rfl⟩)
        go_ret
        exact ⟨rfl, 0, rfl⟩
set_option maxHeartbeats 1000000 in
theorem sBlend_calls (x0 y0 x1 y1 x : Int) (w : World) (hx0 : -1000000 ≤ x0) (hx1 : x0 ≤ 1000000) (hy0 : -1000000 ≤ y0) (hy1 : y0 ≤ 1000000) (hu0 : -1000000 ≤ x1) (hu1 : x1 ≤ 1000000) (hv0 : -1000000 ≤ y1) (hv1 : y1 ≤ 1000000) :
    Calls Try.prog 194 #[.int .i64 x0, .int .i64 y0, .int .i64 x1, .int .i64 y1, .int .i64 x] w fun e w' => e = .returned (.int .i64 (lineF x0 y0 x1 y1 x)) ∧ ∃ n, w' = w.drewN n := by
  have i0 := inB_yes hx0 hx1
  have i1 := inB_yes hy0 hy1
  have i2 := inB_yes hu0 hu1
  have i3 := inB_yes hv0 hv1
  go_enter Try.func194, Try.ntmps194
  go_wp2_with (first | (go_at_call 85; refine (in_calls _ _ _ _).mono ?_; rintro e w1 ⟨rfl, rfl⟩) | (go_at_call 200; refine (sline_calls _ _ _ _ _ _ hx0 hx1 hy0 hy1 hu0 hu1 hv0 hv1).mono ?_; rintro e w1 ⟨rfl, nd, rfl⟩))
  go_ret
  exact ⟨rfl, _, rfl⟩

/-- what the drawn regions of the two temperature functions compute with -/
theorem tp_of {thick t h : Int} (e : hf thick = h) (hh : 1 ≤ h) (t0 : 0 ≤ t) : lineF 0 (ah (t / h).toNat) h (ah (t / h + 1).toNat) (t % h) = tp thick t := by
  have := Int.ediv_nonneg t0 (show 0 ≤ h by omega)
  unfold tp
  rw [e, show (t / h + 1).toNat = (t / h).toNat + 1 by omega]
set_option maxHeartbeats 1000000 in
theorem temperature_calls (thick t : Int) (w : World) (a0 : 1 ≤ thick) (a1 : thick ≤ 30000) (t0 : 0 ≤ t) (t1 : t ≤ 1000000) :
    Calls Try.prog 185 #[.int .i64 thick, .int .i64 t] w fun e w' => e = .returned (.int .i64 (tp thick t)) ∧ ∃ n, w' = w.drewN n := by
  obtain ⟨h0, h1⟩ := hf_bd a0 a1
  have r0 := Int.ediv_nonneg t0 (show 0 ≤ hf thick by omega)
  have r1 := Int.ediv_le_self (hf thick) t0
  have r2 := Int.emod_nonneg t (show hf thick ≠ 0 by omega)
  have r3 := Int.emod_lt_of_pos t (show 0 < hf thick by omega)
  have e1 := quo_nonneg t0 (by omega) (show 1 ≤ hf thick by omega)
  have e2 := Int.tmod_eq_emod_of_nonneg (b := hf thick) t0
  have m0 := ah_bd (t / hf thick).toNat
  have m1 := ah_bd (t / hf thick + 1).toNat
  have e3 : IntKind.i64.wrap (t / hf thick + 1) = t / hf thick + 1 := IntWalk.i64_in _ ⟨by omega, by omega⟩
  rw [← tp_of rfl (show 1 ≤ hf thick by omega) t0]
  generalize eh1 : hf thick = h at *
  have eh := Lib.hid eh1
  clear eh1
  obtain ⟨k, ek⟩ : ∃ k, t / h = k := ⟨_, rfl⟩
  obtain ⟨r, er⟩ : ∃ r, t % h = r := ⟨_, rfl⟩
  rw [ek] at e1 e3 r0 r1 m0 m1
  rw [er] at e2 r2 r3
  rw [ek, er]
  go_enter Try.func185, Try.ntmps185
  go_wp2_with (go_at_call 184; refine (halfTime_calls _ _ (by omega) (by omega)).mono ?_; rintro e w1 ⟨rfl, rfl⟩; rw [eh.out])
  go_quiet ((first | (go_at_call 197; exact quiet_left (afterHalves_calls _ _ (by omega) (by omega))) | (go_at_call 196; exact quiet_more (blend_calls _ _ _ _ _ _ (by omega) (by omega) (by omega) (by omega) (by omega) (by omega) (by omega) (by omega)))))
  clear e1 e2 e3
  go_wp2
  go_ret
  exact ⟨rfl, _, rfl⟩
set_option maxHeartbeats 1000000 in
theorem sat_calls (thick t : Int) (w : World) (a0 : 1 ≤ thick) (a1 : thick ≤ 30000) (t0 : 0 ≤ t) (t1 : t ≤ 1000000) :
    Calls Try.prog 179 #[.int .i64 thick, .int .i64 t] w fun e w' => e = .returned (.int .i64 (tp thick t)) ∧ ∃ n, w' = w.drewN n := by
  obtain ⟨h0, h1⟩ := hf_bd a0 a1
  have r0 := Int.ediv_nonneg t0 (show 0 ≤ hf thick by omega)
  have r1 := Int.ediv_le_self (hf thick) t0
  have r2 := Int.emod_nonneg t (show hf thick ≠ 0 by omega)
  have r3 := Int.emod_lt_of_pos t (show 0 < hf thick by omega)
  have e1 := quo_nonneg t0 (by omega) (show 1 ≤ hf thick by omega)
  have e2 := Int.tmod_eq_emod_of_nonneg (b := hf thick) t0
  have m0 := ah_bd (t / hf thick).toNat
  have m1 := ah_bd (t / hf thick + 1).toNat
  have e3 : IntKind.i64.wrap (t / hf thick + 1) = t / hf thick + 1 := IntWalk.i64_in _ ⟨by omega, by omega⟩
  rw [← tp_of rfl (show 1 ≤ hf thick by omega) t0]
  generalize eh1 : hf thick = h at *
  have eh := Lib.hid eh1
  clear eh1
  obtain ⟨k, ek⟩ : ∃ k, t / h = k := ⟨_, rfl⟩
  obtain ⟨r, er⟩ : ∃ r, t % h = r := ⟨_, rfl⟩
  rw [ek] at e1 e3 r0 r1 m0 m1
  rw [er] at e2 r2 r3
  rw [ek, er]
  go_enter Try.func179, Try.ntmps179
  go_wp2_with (go_at_call 178; refine (shalf_calls _ _ (by omega) (by omega)).mono ?_; rintro e w1 ⟨rfl, rfl⟩; rw [eh.out])
  go_quiet ((first | (go_at_call 195; exact quiet_left (safter_calls _ _ (by omega) (by omega))) | (go_at_call 194; exact quiet_more (sBlend_calls _ _ _ _ _ _ (by omega) (by omega) (by omega) (by omega) (by omega) (by omega) (by omega) (by omega)))))
  clear e1 e2 e3
  go_wp2
  go_ret
  exact ⟨rfl, _, rfl⟩

/-- the bisection -/
def bis (p : Int → Bool) : Nat → Int → Int → Int
  | 0, lo, _ => lo
  | n + 1, lo, hi => if lo < hi then (if p ((lo + hi) / 2) = true then bis p n lo ((lo + hi) / 2) else bis p n ((lo + hi) / 2 + 1) hi) else lo
/-- the least time with at most a temperature -/
def tt (thick goal : Int) : Int := bis (fun t => decide (tp thick t ≤ goal)) (12 * hf thick).toNat 0 (12 * hf thick)
def BisInv (p : Int → Bool) (R lo hi : Int) : Prop := ∃ n : Nat, hi - lo ≤ n ∧ bis p n lo hi = R
theorem bisInv_low {p : Int → Bool} {R lo hi : Int} (h : BisInv p R lo hi) (hl : lo < hi) (ht : p ((lo + hi) / 2) = true) : BisInv p R lo ((lo + hi) / 2) := by
  obtain ⟨n, hn, hb⟩ := h
  cases n with
  | zero => omega
  | succ m =>
    unfold bis at hb
    rw [if_pos hl, if_pos ht] at hb
    exact ⟨m, by omega, hb⟩
theorem bisInv_high {p : Int → Bool} {R lo hi : Int} (h : BisInv p R lo hi) (hl : lo < hi) (ht : p ((lo + hi) / 2) = false) : BisInv p R ((lo + hi) / 2 + 1) hi := by
  obtain ⟨n, hn, hb⟩ := h
  cases n with
  | zero => omega
  | succ m =>
    unfold bis at hb
    rw [if_pos hl, if_neg (by rw [ht]; decide)] at hb
    exact ⟨m, by omega, hb⟩
theorem bisInv_end {p : Int → Bool} {R lo hi : Int} (h : BisInv p R lo hi) (hl : hi ≤ lo) : lo = R := by
  obtain ⟨n, hn, hb⟩ := h
  cases n with
  | zero => exact hb
  | succ m =>
    unfold bis at hb
    rw [if_neg (by omega)] at hb
    exact hb
set_option maxHeartbeats 1000000 in
theorem timeTo_calls (thick goal : Int) (w : World) (a0 : 1 ≤ thick) (a1 : thick ≤ 30000) :
    Calls Try.prog 148 #[.int .i64 thick, .int .i64 goal] w fun e w' => e = .returned (.int .i64 (tt thick goal)) ∧ ∃ n, w' = w.drewN n := by
  obtain ⟨h0, h1⟩ := hf_bd a0 a1
  have hs := Lib.hid (show BisInv (fun t => decide (tp thick t ≤ goal)) (tt thick goal) 0 (12 * hf thick) from ⟨(12 * hf thick).toNat, by omega, rfl⟩)
  go_enter Try.func148, Try.ntmps148
  go_wp2_with (go_at_call 184; refine (halfTime_calls _ _ (by omega) (by omega)).mono ?_; rintro e w1 ⟨rfl, rfl⟩)
  generalize hf thick = h at *
  go_loopw [5, 6] (fun l u wr => ∃ (lo hi : Int) (m : Nat), l = .int .i64 lo ∧ u = .int .i64 hi ∧ 0 ≤ lo ∧ lo ≤ hi ∧ hi ≤ 12 * h ∧ Hid (BisInv (fun t => decide (tp thick t ≤ goal)) (tt thick goal) lo hi) ∧ wr = w.drewN m) (fun l u _ => (intOf u - intOf l).toNat)
  case atStart => exact ⟨0, 12 * h, 0, rfl, rfl, by omega, by omega, by omega, hs, rfl⟩
  case round =>
    obtain ⟨lo, hi, m, rfl, rfl, g0, g1, g2, hv, rfl⟩ := hrel
    by_cases hl : lo < hi
    · cases ht : decide (tp thick ((lo + hi) / 2) ≤ goal)
      · have hi2 := Lib.hid (bisInv_high hv.out hl ht)
        clear hv
        go_wp2_with (go_at_call 185; refine (temperature_calls _ _ _ (by omega) (by omega) (by omega) (by omega)).mono ?_; rintro e w1 ⟨rfl, nd, rfl⟩)
        go_roundw
        case rel => exact ⟨_, _, _, rfl, rfl, by omega, by omega, by omega, hi2, rfl⟩
        case measure => simp [intOf]; omega
      · have hi2 := Lib.hid (bisInv_low hv.out hl ht)
        clear hv
        go_wp2_with (go_at_call 185; refine (temperature_calls _ _ _ (by omega) (by omega) (by omega) (by omega)).mono ?_; rintro e w1 ⟨rfl, nd, rfl⟩)
        go_roundw
        case rel => exact ⟨_, _, _, rfl, rfl, by omega, by omega, by omega, hi2, rfl⟩
        case measure => simp [intOf]; omega
    · have hi2 := Lib.hid (bisInv_end hv.out (by omega))
      clear hv
      go_wp2
      go_ret
      exact ⟨ret_int hi2.out, m, rfl⟩
set_option maxHeartbeats 1000000 in
theorem sto_calls (thick goal : Int) (w : World) (a0 : 1 ≤ thick) (a1 : thick ≤ 30000) :
    Calls Try.prog 144 #[.int .i64 thick, .int .i64 goal] w fun e w' => e = .returned (.int .i64 (tt thick goal)) ∧ ∃ n, w' = w.drewN n := by
  obtain ⟨h0, h1⟩ := hf_bd a0 a1
  have hs := Lib.hid (show BisInv (fun t => decide (tp thick t ≤ goal)) (tt thick goal) 0 (12 * hf thick) from ⟨(12 * hf thick).toNat, by omega, rfl⟩)
  go_enter Try.func144, Try.ntmps144
  go_wp2_with (go_at_call 178; refine (shalf_calls _ _ (by omega) (by omega)).mono ?_; rintro e w1 ⟨rfl, rfl⟩)
  generalize hf thick = h at *
  go_loopw [5, 6] (fun l u wr => ∃ (lo hi : Int) (m : Nat), l = .int .i64 lo ∧ u = .int .i64 hi ∧ 0 ≤ lo ∧ lo ≤ hi ∧ hi ≤ 12 * h ∧ Hid (BisInv (fun t => decide (tp thick t ≤ goal)) (tt thick goal) lo hi) ∧ wr = w.drewN m) (fun l u _ => (intOf u - intOf l).toNat)
  case atStart => exact ⟨0, 12 * h, 0, rfl, rfl, by omega, by omega, by omega, hs, rfl⟩
  case round =>
    obtain ⟨lo, hi, m, rfl, rfl, g0, g1, g2, hv, rfl⟩ := hrel
    by_cases hl : lo < hi
    · cases ht : decide (tp thick ((lo + hi) / 2) ≤ goal)
      · have hi2 := Lib.hid (bisInv_high hv.out hl ht)
        clear hv
        go_wp2_with (go_at_call 179; refine (sat_calls _ _ _ (by omega) (by omega) (by omega) (by omega)).mono ?_; rintro e w1 ⟨rfl, nd, rfl⟩)
        go_roundw
        case rel => exact ⟨_, _, _, rfl, rfl, by omega, by omega, by omega, hi2, rfl⟩
        case measure => simp [intOf]; omega
      · have hi2 := Lib.hid (bisInv_low hv.out hl ht)
        clear hv
        go_wp2_with (go_at_call 179; refine (sat_calls _ _ _ (by omega) (by omega) (by omega) (by omega)).mono ?_; rintro e w1 ⟨rfl, nd, rfl⟩)
        go_roundw
        case rel => exact ⟨_, _, _, rfl, rfl, by omega, by omega, by omega, hi2, rfl⟩
        case measure => simp [intOf]; omega
    · have hi2 := Lib.hid (bisInv_end hv.out (by omega))
      clear hv
      go_wp2
      go_ret
      exact ⟨ret_int hi2.out, m, rfl⟩

def taV (k t : Int) : Int := if inB k 1 30000 = true then if inB t 0 1000000 = true then tp k t else 0 else 0
def taC (k t : Int) : Int := if inB k 1 30000 = true then if inB t 0 1000000 = true then 0 else 2 else 2
def toV (k t : Int) : Int := if inB k 1 30000 = true then if inB t 20 1150 = true then tt k t else 0 else 0
def toC (k t : Int) : Int := if inB k 1 30000 = true then if inB t 20 1150 = true then 0 else 2 else 2
theorem bis_bd {p : Int → Bool} : ∀ (n : Nat) (lo hi : Int), lo ≤ hi → lo ≤ bis p n lo hi ∧ bis p n lo hi ≤ hi
  | 0, lo, hi, h => by unfold bis; omega
  | n + 1, lo, hi, h => by
    unfold bis
    split
    · split
      · have := bis_bd (p := p) n lo ((lo + hi) / 2) (by omega); omega
      · have := bis_bd (p := p) n ((lo + hi) / 2 + 1) hi (by omega); omega
    · omega
theorem tt_bd {k : Int} (t : Int) (h0 : 1 ≤ k) (h1 : k ≤ 30000) : 0 ≤ tt k t ∧ tt k t ≤ 54360 := by
  obtain ⟨a, b⟩ := hf_bd h0 h1
  have := bis_bd (p := fun x => decide (tp k x ≤ t)) (12 * hf k).toNat 0 (12 * hf k) (by omega)
  unfold tt
  omega
end Go.Proofs.Ytaanlkdpconfiaa
