/- Plain arithmetic, no program in sight: the nearest integer of a quotient, the integer square root, remainders. No conditions beyond those each lemma names. -/
import Derived.WalkKit
namespace Go.Proofs.YticnpibkpfpojaaGreatDoor
set_option linter.unusedVariables false

/-- The integer nearest to a / b (b positive), halves away from 0. -/
def nr (a b : Int) : Int := if a < 0 then -((b - 2 * a) / (2 * b)) else (2 * a + b) / (2 * b)

theorem div_unique {a b q r : Int} (hb : 0 < b) (h0 : 0 ≤ r) (h1 : r < b) (e : a = b * q + r) : a / b = q := by
  subst e
  rw [Int.add_comm, Int.add_mul_ediv_left _ _ (by omega), Int.ediv_eq_zero_of_lt h0 h1]
  omega

theorem nr_up {a b : Int} (h : 0 ≤ a) (hb : 0 < b) (hr : b - a % b ≤ a % b) : nr a b = a / b + 1 := by
  have h1 := Int.emod_lt_of_pos a hb
  have h2 := Int.emod_nonneg a (show b ≠ 0 by omega)
  have h3 := Int.mul_ediv_add_emod a b
  unfold nr
  rw [if_neg (by omega)]
  refine div_unique (r := 2 * (a % b) - b) (by omega) (by omega) (by omega) ?_
  have : 2 * b * (a / b + 1) = 2 * (b * (a / b)) + 2 * b := by rw [Int.mul_add, Int.mul_assoc]; omega
  omega

theorem nr_down {a b : Int} (h : 0 ≤ a) (hb : 0 < b) (hr : a % b < b - a % b) : nr a b = a / b := by
  have h1 := Int.emod_lt_of_pos a hb
  have h2 := Int.emod_nonneg a (show b ≠ 0 by omega)
  have h3 := Int.mul_ediv_add_emod a b
  unfold nr
  rw [if_neg (by omega)]
  refine div_unique (r := 2 * (a % b) + b) (by omega) (by omega) (by omega) ?_
  have : 2 * b * (a / b) = 2 * (b * (a / b)) := by rw [Int.mul_assoc]
  omega

theorem nr_neg (a b : Int) (h : a < 0) : nr a b = - nr (-a) b := by
  unfold nr
  rw [if_pos h, if_neg (by omega)]
  have : b - 2 * a = 2 * -a + b := by omega
  rw [this]

theorem nr_nonneg {a b : Int} (h : 0 ≤ a) (hb : 0 < b) : 0 ≤ nr a b := by
  unfold nr
  rw [if_neg (by omega)]
  exact Int.ediv_nonneg (by omega) (by omega)

theorem nr_le {a b c : Int} (hb : 0 < b) (hc : 0 ≤ c) (h : a ≤ c * b) : nr a b ≤ c := by
  unfold nr
  split
  · have : 0 ≤ (b - 2 * a) / (2 * b) := Int.ediv_nonneg (by omega) (by omega)
    omega
  · refine Int.lt_add_one_iff.1 (Int.ediv_lt_of_lt_mul (by omega) ?_)
    have e : (c + 1) * (2 * b) = 2 * (c * b) + 2 * b := by
      rw [Int.add_mul, Int.one_mul]
      have : c * (2 * b) = 2 * (c * b) := by rw [Int.mul_left_comm]
      omega
    omega

theorem nr_ge {a b c : Int} (hb : 0 < b) (hc : 0 ≤ c) (h : -(c * b) ≤ a) : -c ≤ nr a b := by
  by_cases h0 : a < 0
  · rw [nr_neg a b h0]
    have := nr_le (a := -a) hb hc (by omega)
    omega
  · have := nr_nonneg (a := a) (by omega) hb
    omega

theorem nr_mono {a b c : Int} (hb : 0 < b) (h : a ≤ c) : nr a b ≤ nr c b := by
  unfold nr
  split
  · split
    · have : (b - 2 * c) / (2 * b) ≤ (b - 2 * a) / (2 * b) := Int.ediv_le_ediv (by omega) (by omega)
      omega
    · have h1 : 0 ≤ (b - 2 * a) / (2 * b) := Int.ediv_nonneg (by omega) (by omega)
      have h2 : 0 ≤ (2 * c + b) / (2 * b) := Int.ediv_nonneg (by omega) (by omega)
      omega
  · rw [if_neg (by omega)]
    exact Int.ediv_le_ediv (by omega) (by omega)

/-! ### the integer square root -/
def isqN : Nat → Nat
  | 0 => 0
  | n + 1 => if (isqN n + 1) * (isqN n + 1) ≤ n + 1 then isqN n + 1 else isqN n

theorem isqN_spec : ∀ n, isqN n * isqN n ≤ n ∧ n < (isqN n + 1) * (isqN n + 1)
  | 0 => by simp [isqN]
  | n + 1 => by
    have ⟨h1, h2⟩ := isqN_spec n
    unfold isqN
    split
    · rename_i h
      refine ⟨h, ?_⟩
      have : (isqN n + 1 + 1) * (isqN n + 1 + 1) = (isqN n + 1) * (isqN n + 1) + 2 * (isqN n + 1) + 1 := by
        rw [Nat.add_mul, Nat.mul_add]; omega
      omega
    · rename_i h
      exact ⟨by omega, by omega⟩

/-- The greatest number whose square is at most n; 0 for numbers that are not positive. -/
def isq (n : Int) : Int := (isqN n.toNat : Int)

theorem isq_nonneg (n : Int) : 0 ≤ isq n := by unfold isq; omega
theorem isq_spec {n : Int} (h : 0 ≤ n) : isq n * isq n ≤ n ∧ n < (isq n + 1) * (isq n + 1) := by
  obtain ⟨m, rfl⟩ := Int.eq_ofNat_of_zero_le h
  have ⟨h1, h2⟩ := isqN_spec m
  unfold isq
  simp only [Int.toNat_natCast]
  exact ⟨by exact_mod_cast h1, by exact_mod_cast h2⟩
theorem isq_neg {n : Int} (h : n ≤ 0) : isq n = 0 := by
  unfold isq
  rw [Int.toNat_of_nonpos h]
  rfl
theorem sq_lt {a b : Int} (ha : 0 ≤ a) (hb : 0 ≤ b) (h : a * a < b * b) : a < b := by
  refine Int.not_le.1 fun hle => ?_
  have := Int.mul_le_mul hle hle hb ha
  omega
theorem isq_unique {n r : Int} (hr : 0 ≤ r) (h1 : r * r ≤ n) (h2 : n < (r + 1) * (r + 1)) : isq n = r := by
  have hn : 0 ≤ n := Int.le_trans (Int.mul_nonneg hr hr) h1
  have ⟨h3, h4⟩ := isq_spec hn
  have h0 := isq_nonneg n
  have a1 := sq_lt h0 (by omega) (Int.lt_of_le_of_lt h3 h2)
  have a2 := sq_lt hr (by omega) (Int.lt_of_le_of_lt h1 h4)
  omega
theorem isq_le {n c : Int} (hc : 0 ≤ c) (h : n ≤ c * c) : isq n ≤ c := by
  by_cases hn : 0 ≤ n
  · have ⟨h3, _⟩ := isq_spec hn
    have := sq_lt (a := isq n) (b := c + 1) (isq_nonneg n) (by omega) (by
      have : (c + 1) * (c + 1) = c * c + 2 * c + 1 := by rw [Int.add_mul, Int.mul_add]; omega
      omega)
    omega
  · rw [isq_neg (by omega)]; omega
theorem isq_mono {a b : Int} (h : a ≤ b) : isq a ≤ isq b := by
  by_cases hb : 0 ≤ b
  · by_cases ha : 0 ≤ a
    · have ⟨h3, _⟩ := isq_spec ha
      have ⟨_, h4⟩ := isq_spec hb
      have := sq_lt (a := isq a) (b := isq b + 1) (isq_nonneg a) (by have := isq_nonneg b; omega) (by omega)
      omega
    · rw [isq_neg (by omega)]; exact isq_nonneg b
  · rw [isq_neg (by omega)]; exact isq_nonneg b

end Go.Proofs.YticnpibkpfpojaaGreatDoor
