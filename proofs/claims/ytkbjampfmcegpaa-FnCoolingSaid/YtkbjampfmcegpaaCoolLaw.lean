/- Plain law of cooling: temperatures never rise with time, a thicker wall is never colder, the bisection finds the least time. No program in sight. -/
import Derived.Test.YtkbjampfmcegpaaCool
namespace Go.Proofs.Ytkbjampfmcegpaa
set_option linter.unusedVariables false
theorem ah_anti {i j : Nat} (h : i ≤ j) : ah j ≤ ah i := by
  have h0 : (0 : Int) < 2 ^ i := Int.pow_pos (by omega)
  have h1 : (0 : Int) < 2 ^ j := Int.pow_pos (by omega)
  have hle : (2 : Int) ^ i ≤ 2 ^ j := by
    have h2 : (2 : Nat) ^ i ≤ 2 ^ j := Nat.pow_le_pow_right (by omega) h
    have h3 : ((2 ^ i : Nat) : Int) = (2 : Int) ^ i := by rw [Int.natCast_pow]; rfl
    have h4 : ((2 ^ j : Nat) : Int) = (2 : Int) ^ j := by rw [Int.natCast_pow]; rfl
    omega
  have q0 := Int.ediv_nonneg (show (0 : Int) ≤ 1130 by omega) (show (0 : Int) ≤ 2 ^ j by omega)
  have q1 := Int.ediv_mul_le 1130 (show (2 : Int) ^ j ≠ 0 by omega)
  have q2 := Int.mul_le_mul_of_nonneg_left hle q0
  have q3 := Int.le_ediv_of_mul_le h0 (Int.le_trans q2 q1)
  unfold ah
  omega
/-- the line of one half time, falling -/
theorem line_fall {y0 y1 h r : Int} (h1 : y1 ≤ y0) (r0 : 0 ≤ r) (r1 : r < h) : lineF 0 y0 h y1 r = y0 - nr ((y0 - y1) * r) h ∧ 0 ≤ nr ((y0 - y1) * r) h ∧ nr ((y0 - y1) * r) h ≤ y0 - y1 := by
  have hd := Int.mul_nonneg (show 0 ≤ y0 - y1 by omega) r0
  have hm := Int.mul_le_mul_of_nonneg_left (show r ≤ h by omega) (show 0 ≤ y0 - y1 by omega)
  refine ⟨?_, nr_nonneg hd (by omega), nr_le (by omega) (by omega) hm⟩
  unfold lineF
  by_cases hr : r ≤ 0
  · obtain rfl : r = 0 := by omega
    rw [if_pos (.inl (by omega)), Int.mul_zero]
    have : nr 0 h = 0 := by
      have a := nr_nonneg (a := 0) (b := h) (by omega) (by omega)
      have b := nr_le (a := 0) (b := h) (c := 0) (by omega) (by omega) (by omega)
      omega
    omega
  · rw [if_neg (by omega), if_neg (by omega)]
    have e : (y1 - y0) * (r - 0) = -((y0 - y1) * r) := by rw [← Int.neg_mul]; congr 1 <;> omega
    have e2 : h - 0 = h := by omega
    rw [e, e2]
    by_cases hz : (y0 - y1) * r = 0
    · rw [hz, Int.neg_zero]
      have : nr 0 h = 0 := by
        have a := nr_nonneg (a := 0) (b := h) (by omega) (by omega)
        have b := nr_le (a := 0) (b := h) (c := 0) (by omega) (by omega) (by omega)
        omega
      omega
    · rw [nr_neg _ _ (by omega), Int.neg_neg]
      omega
/-- the temperature by the half time -/
def tpH (h t : Int) : Int := lineF 0 (ah (t / h).toNat) h (ah ((t / h).toNat + 1)) (t % h)
theorem tpH_eq {h t : Int} (h0 : 1 ≤ h) (t0 : 0 ≤ t) : ∃ k : Nat, t / h = k ∧ 0 ≤ t - h * k ∧ t - h * k < h ∧ tpH h t = ah k - nr ((ah k - ah (k + 1)) * (t - h * k)) h ∧ 0 ≤ nr ((ah k - ah (k + 1)) * (t - h * k)) h ∧ nr ((ah k - ah (k + 1)) * (t - h * k)) h ≤ ah k - ah (k + 1) := by
  obtain ⟨k, hk⟩ := Int.eq_ofNat_of_zero_le (Int.ediv_nonneg t0 (show 0 ≤ h by omega))
  have e := Int.mul_ediv_add_emod t h
  have r0 := Int.emod_nonneg t (show h ≠ 0 by omega)
  have r1 := Int.emod_lt_of_pos t (show 0 < h by omega)
  rw [hk] at e
  have er : t % h = t - h * k := by omega
  obtain ⟨a, b, c⟩ := line_fall (h := h) (r := t - h * k) (ah_anti (show k ≤ k + 1 by omega)) (by omega) (by omega)
  refine ⟨k, hk, by omega, by omega, ?_, b, c⟩
  unfold tpH
  rw [hk, er, Int.toNat_natCast]
  exact a
theorem nr_slower {d r r2 h h2 : Int} (d0 : 0 ≤ d) (h0 : 1 ≤ h) (hh : h ≤ h2) (r0 : 0 ≤ r2) (hr : r2 * h ≤ r * h2) : nr (d * r2) h2 ≤ nr (d * r) h := by
  have e0 : 0 ≤ d * r2 := Int.mul_nonneg d0 r0
  have er : 0 ≤ r := by
    rcases Int.lt_or_le r 0 with q | q
    · have a := Int.mul_nonneg r0 (show 0 ≤ h by omega)
      have b : 0 < (-r) * h2 := Int.mul_pos (by omega) (by omega)
      rw [Int.neg_mul] at b
      omega
    · exact q
  have e1 : 0 ≤ d * r := Int.mul_nonneg d0 er
  unfold nr
  rw [if_neg (by omega), if_neg (by omega)]
  have q0 : 0 ≤ (2 * (d * r2) + h2) / (2 * h2) := Int.ediv_nonneg (by omega) (by omega)
  have q1 := Int.ediv_mul_le (2 * (d * r2) + h2) (show 2 * h2 ≠ 0 by omega)
  generalize hq : (2 * (d * r2) + h2) / (2 * h2) = q at *
  clear hq
  refine Int.le_ediv_of_mul_le (by omega) ?_
  -- q * (2 h2) ≤ 2 d r2 + h2, so (2 q - 1) h2 ≤ 2 d r2
  have a1 : (2 * q - 1) * h2 ≤ 2 * (d * r2) := by
    have : (2 * q - 1) * h2 = q * (2 * h2) - h2 := by
      rw [Int.sub_mul, Int.one_mul, Int.mul_assoc, Int.mul_left_comm]
    omega
  have a2 : (2 * q - 1) * h ≤ 2 * (d * r) := by
    rcases Int.lt_or_le q 1 with z | z
    · obtain rfl : q = 0 := by omega
      omega
    · refine Int.le_of_mul_le_mul_right (a := h2) ?_ (by omega)
      have b1 := Int.mul_le_mul_of_nonneg_right a1 (show 0 ≤ h by omega)
      have b2 := Int.mul_le_mul_of_nonneg_left hr (show 0 ≤ 2 * d by omega)
      have c1 : (2 * q - 1) * h * h2 = (2 * q - 1) * h2 * h := by rw [Int.mul_assoc, Int.mul_comm h h2, ← Int.mul_assoc]
      have c2 : 2 * (d * r2) * h = 2 * d * (r2 * h) := by rw [← Int.mul_assoc 2 d r2, Int.mul_assoc]
      have c3 : 2 * (d * r) * h2 = 2 * d * (r * h2) := by rw [← Int.mul_assoc 2 d r, Int.mul_assoc]
      rw [c1, c3]
      rw [c2] at b1
      exact Int.le_trans b1 b2
  have a3 : (2 * q - 1) * h = q * (2 * h) - h := by
    rw [Int.sub_mul, Int.one_mul, Int.mul_assoc, Int.mul_left_comm]
  omega
theorem tpH_bd {h t : Int} (h0 : 1 ≤ h) (t0 : 0 ≤ t) : 20 ≤ tpH h t ∧ tpH h t ≤ 1150 := by
  obtain ⟨k, hk, r0, r1, e, n0, n1⟩ := tpH_eq h0 t0
  have := ah_bd k
  have := ah_bd (k + 1)
  omega
theorem tpH_anti {h t t2 : Int} (h0 : 1 ≤ h) (t0 : 0 ≤ t) (ht : t ≤ t2) : tpH h t2 ≤ tpH h t := by
  obtain ⟨k, hk, r0, r1, e, n0, n1⟩ := tpH_eq h0 t0
  obtain ⟨j, hj, s0, s1, e2, m0, m1⟩ := tpH_eq (t := t2) h0 (by omega)
  have hkj : k ≤ j := by
    have := Int.ediv_le_ediv (show 0 < h by omega) ht
    omega
  rcases Nat.lt_or_ge k j with q | q
  · have := ah_anti (show k + 1 ≤ j by omega)
    omega
  · obtain rfl : j = k := by omega
    have hm := Int.mul_le_mul_of_nonneg_left (show t - h * j ≤ t2 - h * j by omega) (show 0 ≤ ah j - ah (j + 1) by have := ah_anti (show j ≤ j + 1 by omega); omega)
    have := nr_mono (b := h) (by omega) hm
    omega
theorem tpH_slower {h h2 t : Int} (h0 : 1 ≤ h) (hh : h ≤ h2) (t0 : 0 ≤ t) : tpH h t ≤ tpH h2 t := by
  obtain ⟨k, hk, r0, r1, e, n0, n1⟩ := tpH_eq h0 t0
  obtain ⟨j, hj, s0, s1, e2, m0, m1⟩ := tpH_eq (h := h2) (by omega) t0
  have hkj : j ≤ k := by
    rcases Nat.lt_or_ge k j with q | q
    · exfalso
      have a := Int.mul_le_mul_of_nonneg_right hh (show (0 : Int) ≤ j by omega)
      have b := Int.mul_le_mul_of_nonneg_left (show (k : Int) + 1 ≤ j by omega) (show 0 ≤ h by omega)
      rw [Int.mul_add] at b
      omega
    · exact q
  rcases Nat.lt_or_ge j k with q | q
  · have := ah_anti (show j + 1 ≤ k by omega)
    omega
  · obtain rfl : j = k := by omega
    have hs := nr_slower (d := ah j - ah (j + 1)) (r := t - h * j) (r2 := t - h2 * j) (by have := ah_anti (show j ≤ j + 1 by omega); omega) h0 hh s0 (by
      have a : (t - h2 * j) * h = t * h - h2 * j * h := Int.sub_mul _ _ _
      have b : (t - h * j) * h2 = t * h2 - h * j * h2 := Int.sub_mul _ _ _
      have c : h2 * j * h = h * j * h2 := by rw [Int.mul_comm (h2 * j) h, ← Int.mul_assoc, Int.mul_assoc h h2 j, Int.mul_comm h2 j, ← Int.mul_assoc]
      have d := Int.mul_le_mul_of_nonneg_left hh t0
      rw [a, b, c]
      omega)
    omega
theorem hf_mono {a b : Int} (a0 : 1 ≤ a) (h : a ≤ b) : hf a ≤ hf b := by
  have q := Int.mul_le_mul h h (by omega) (show 0 ≤ b by omega)
  have := Int.ediv_le_ediv (show (0 : Int) < 200000 by omega) q
  unfold hf
  omega
theorem tp_bd {k t : Int} (k0 : 1 ≤ k) (k1 : k ≤ 30000) (t0 : 0 ≤ t) : 20 ≤ tp k t ∧ tp k t ≤ 1150 := tpH_bd (by have := hf_bd k0 k1; omega) t0
theorem tp_anti {k t t2 : Int} (k0 : 1 ≤ k) (k1 : k ≤ 30000) (t0 : 0 ≤ t) (ht : t ≤ t2) : tp k t2 ≤ tp k t := tpH_anti (by have := hf_bd k0 k1; omega) t0 ht
theorem tp_slower {k k2 t : Int} (k0 : 1 ≤ k) (k1 : k ≤ 30000) (hk : k ≤ k2) (t0 : 0 ≤ t) : tp k t ≤ tp k2 t := tpH_slower (by have := hf_bd k0 k1; omega) (hf_mono k0 hk) t0
theorem tp_last {k : Int} (k0 : 1 ≤ k) (k1 : k ≤ 30000) : tp k (12 * hf k) = 20 := by
  obtain ⟨a, b⟩ := hf_bd k0 k1
  obtain ⟨j, hj, r0, r1, e, n0, n1⟩ := tpH_eq (h := hf k) (t := 12 * hf k) (by omega) (by omega)
  have : (12 * hf k) / hf k = 12 := Int.mul_ediv_cancel _ (by omega)
  obtain rfl : j = 12 := by omega
  have h1 : ah 12 = 20 := ah_late (by omega)
  have h2 : ah 13 = 20 := ah_late (by omega)
  have e3 : tp k (12 * hf k) = tpH (hf k) (12 * hf k) := rfl
  rw [e3]
  have h2' : ah (12 + 1) = 20 := h2
  omega
theorem bis_least {p : Int → Bool} : ∀ (n : Nat) (lo hi : Int), lo ≤ hi → hi - lo ≤ n → p hi = true → p (bis p n lo hi) = true ∧ (lo < bis p n lo hi → p (bis p n lo hi - 1) = false)
  | 0, lo, hi, h, hn, hp => by
    obtain rfl : lo = hi := by omega
    unfold bis
    exact ⟨hp, fun q => by omega⟩
  | n + 1, lo, hi, h, hn, hp => by
    unfold bis
    by_cases hl : lo < hi
    · rw [if_pos hl]
      cases hm : p ((lo + hi) / 2)
      · rw [if_neg (by simp)]
        obtain ⟨a, b⟩ := bis_least n ((lo + hi) / 2 + 1) hi (by omega) (by omega) hp
        obtain ⟨c, d⟩ := bis_bd (p := p) n ((lo + hi) / 2 + 1) hi (by omega)
        refine ⟨a, fun _ => ?_⟩
        rcases Int.lt_or_le ((lo + hi) / 2 + 1) (bis p n ((lo + hi) / 2 + 1) hi) with q | q
        · exact b q
        · have e : bis p n ((lo + hi) / 2 + 1) hi - 1 = (lo + hi) / 2 := by omega
          rw [e, hm]
      · rw [if_pos rfl]
        exact bis_least n lo ((lo + hi) / 2) (by omega) (by omega) hm
    · rw [if_neg hl]
      obtain rfl : lo = hi := by omega
      exact ⟨hp, fun q => by omega⟩
theorem tt_least {k g : Int} (k0 : 1 ≤ k) (k1 : k ≤ 30000) (hg : 20 ≤ g) : tp k (tt k g) ≤ g ∧ (0 < tt k g → g < tp k (tt k g - 1)) := by
  obtain ⟨a, b⟩ := hf_bd k0 k1
  have hl := tp_last k0 k1
  obtain ⟨h1, h2⟩ := bis_least (p := fun t => decide (tp k t ≤ g)) (12 * hf k).toNat 0 (12 * hf k) (by omega) (by omega) (decide_eq_true (by omega))
  refine ⟨of_decide_eq_true h1, fun q => ?_⟩
  have h3 := of_decide_eq_false (h2 q)
  have e : bis (fun t => decide (tp k t ≤ g)) (12 * hf k).toNat 0 (12 * hf k) = tt k g := rfl
  rw [e] at h3
  omega
end Go.Proofs.Ytkbjampfmcegpaa
