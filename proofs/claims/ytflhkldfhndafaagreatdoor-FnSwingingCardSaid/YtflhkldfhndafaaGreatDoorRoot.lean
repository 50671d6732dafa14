/- The two integer square roots return the same number: the greatest one whose square is at most n (0 where n is not positive). For every int64 n. -/
import Derived.Test.YtflhkldfhndafaaGreatDoorBase
namespace Go.Proofs.YtflhkldfhndafaaGreatDoor
set_option linter.unusedVariables false
open Go.RowKit

/-- What holds at each round's head of the root that goes bit by bit. -/
def RootInv (n x B : Int) : Prop := 0 ≤ x ∧ ∃ k : Nat, k ≤ 32 ∧ B = (2 : Int) ^ k / 2 ∧ x + (2 : Int) ^ k ≤ 4294967296 ∧ x * x ≤ n ∧ n < (x + (2 : Int) ^ k) * (x + (2 : Int) ^ k)
theorem pow_pos' (k : Nat) : (0 : Int) < (2 : Int) ^ k := Int.pow_pos (by omega)
theorem rootInv_start {n : Int} (h : 0 ≤ n) (h2 : n ≤ 9223372036854775807) : RootInv n 0 2147483648 :=
  ⟨Int.le_refl _, 32, by omega, by decide, by decide, by simpa using h, by
    have : ((0 : Int) + (2 : Int) ^ 32) * ((0 : Int) + (2 : Int) ^ 32) = 18446744073709551616 := by decide
    omega⟩
theorem rootInv_bound {n x B : Int} (h : RootInv n x B) : 0 ≤ x ∧ 0 ≤ B ∧ B ≤ 2147483648 ∧ x + B ≤ 4294967296 := by
  obtain ⟨h0, k, hk, rfl, h1, _, _⟩ := h
  have := pow_pos' k
  omega
theorem rootInv_take {n x B : Int} (h : RootInv n x B) (hB : 0 < B) (ht : x + B ≤ n / (x + B)) : RootInv n (x + B) (B / 2) := by
  obtain ⟨h0, k, hk, rfl, h1, h2, h3⟩ := h
  cases k with
  | zero => simp at hB
  | succ j =>
    have hp := pow_pos' j
    have e : (2 : Int) ^ (j + 1) = 2 * (2 : Int) ^ j := by rw [Int.pow_succ]; omega
    have e2 : (2 : Int) ^ (j + 1) / 2 = (2 : Int) ^ j := by omega
    rw [e2] at ht ⊢
    rw [e] at h1 h3
    refine ⟨by omega, j, by omega, rfl, by omega, ?_, ?_⟩
    · exact Int.le_trans (Int.mul_le_mul_of_nonneg_right ht (by omega)) (Int.ediv_mul_le _ (by omega))
    · have e3 : x + (2 : Int) ^ j + (2 : Int) ^ j = x + 2 * (2 : Int) ^ j := by omega
      rw [e3]; exact h3
theorem rootInv_skip {n x B : Int} (h : RootInv n x B) (hB : 0 < B) (ht : n / (x + B) < x + B) : RootInv n x (B / 2) := by
  obtain ⟨h0, k, hk, rfl, h1, h2, h3⟩ := h
  cases k with
  | zero => simp at hB
  | succ j =>
    have hp := pow_pos' j
    have e : (2 : Int) ^ (j + 1) = 2 * (2 : Int) ^ j := by rw [Int.pow_succ]; omega
    have e2 : (2 : Int) ^ (j + 1) / 2 = (2 : Int) ^ j := by omega
    rw [e2] at ht ⊢
    rw [e] at h1 h3
    exact ⟨by omega, j, by omega, rfl, by omega, h2, Int.lt_mul_of_ediv_lt (by omega) ht⟩
theorem rootInv_end {n x B : Int} (h : RootInv n x B) (hB : B ≤ 0) : x = isq n := by
  obtain ⟨h0, k, hk, rfl, h1, h2, h3⟩ := h
  cases k with
  | zero => exact (isq_unique h0 h2 (by simpa using h3)).symm
  | succ j =>
    have hp := pow_pos' j
    have e : (2 : Int) ^ (j + 1) = 2 * (2 : Int) ^ j := by rw [Int.pow_succ]; omega
    omega

set_option maxHeartbeats 400000 in
theorem root_calls (n : Int) (w : World) (h2 : n ≤ 9223372036854775807) :
    Calls Tryz.prog 32 #[.int .i64 n] w fun e w' => e = .returned (.int .i64 (isq n)) ∧ w = w' := by
  by_cases hn : n ≤ 0
  · rw [isq_neg hn]
    go_enter Tryz.func32, Tryz.ntmps32
    go_wp2
    go_ret
    exact ⟨rfl, rfl⟩
  · have hs := Lib.hid (rootInv_start (n := n) (by omega) h2)
    have hn0 : decide (n ≤ 0) = false := decide_eq_false hn
    go_enter Tryz.func32, Tryz.ntmps32
    go_wp2
    go_loop [3, 4] (fun r b => ∃ x B : Int, r = .int .i64 x ∧ b = .int .i64 B ∧ Hid (RootInv n x B)) (fun _ b => (intOf b).toNat)
    case atStart => exact ⟨0, 2147483648, rfl, rfl, hs⟩
    case round =>
      obtain ⟨x, B, rfl, rfl, hi⟩ := hrel
      obtain ⟨b1, b2, b3, b4⟩ := rootInv_bound hi.out
      by_cases hB : 0 < B
      · by_cases ht : x + B ≤ n / (x + B)
        · have hi2 := Lib.hid (rootInv_take hi.out hB ht)
          clear hi
          go_wp2
          go_round
          case rel => exact ⟨x + B, B / 2, rfl, rfl, hi2⟩
          case measure => simp [intOf]; omega
        · have hi2 := Lib.hid (rootInv_skip hi.out hB (by omega))
          clear hi
          go_wp2
          go_round
          case rel => exact ⟨x, B / 2, rfl, rfl, hi2⟩
          case measure => simp [intOf]; omega
      · have hi2 := Lib.hid (rootInv_end hi.out (by omega))
        clear hi
        go_wp2
        go_ret
        exact ⟨ret_int hi2.out, rfl⟩

/-- What holds at each round's head of the root that halves. -/
def HalfInv (n lo hi : Int) : Prop := 0 ≤ lo ∧ lo ≤ hi ∧ hi ≤ 3037000499 ∧ (lo * lo ≤ n ∨ lo = 0) ∧ n < (hi + 1) * (hi + 1)
theorem halfInv_start {n : Int} (h2 : n ≤ 9223372036854775807) : HalfInv n 0 3037000499 := ⟨by omega, by omega, by omega, .inr rfl, by
  have : ((3037000499 : Int) + 1) * (3037000499 + 1) = 9223372037000250000 := by decide
  omega⟩
theorem halfInv_bound {n lo hi : Int} (h : HalfInv n lo hi) : 0 ≤ lo ∧ lo ≤ hi ∧ hi ≤ 3037000499 := ⟨h.1, h.2.1, h.2.2.1⟩
theorem half_sq {m : Int} (h0 : 0 ≤ m) (h1 : m ≤ 3037000499) : 0 ≤ m * m ∧ m * m ≤ 9223372030926249001 := by
  refine ⟨Int.mul_nonneg h0 h0, ?_⟩
  have := Int.mul_le_mul h1 h1 h0 (by omega)
  omega
theorem halfInv_up {n lo hi : Int} (h : HalfInv n lo hi) (hl : lo < hi) (ht : (lo + hi + 1) / 2 * ((lo + hi + 1) / 2) ≤ n) : HalfInv n ((lo + hi + 1) / 2) hi := by
  obtain ⟨h0, h1, h2, h3, h4⟩ := h
  exact ⟨by omega, by omega, h2, .inl ht, h4⟩
theorem halfInv_down {n lo hi : Int} (h : HalfInv n lo hi) (hl : lo < hi) (ht : n < (lo + hi + 1) / 2 * ((lo + hi + 1) / 2)) : HalfInv n lo ((lo + hi + 1) / 2 - 1) := by
  obtain ⟨h0, h1, h2, h3, h4⟩ := h
  exact ⟨h0, by omega, by omega, h3, by rw [Int.sub_add_cancel]; exact ht⟩
theorem halfInv_end {n lo hi : Int} (h : HalfInv n lo hi) (hl : hi ≤ lo) : lo = isq n := by
  obtain ⟨h0, h1, h2, h3, h4⟩ := h
  obtain rfl : lo = hi := by omega
  by_cases hn : 0 ≤ n
  · rcases h3 with h3 | h3
    · exact (isq_unique h0 h3 h4).symm
    · subst h3
      exact (isq_unique h0 (by simpa using hn) h4).symm
  · rcases h3 with h3 | h3
    · have := Int.mul_nonneg h0 h0
      omega
    · rw [h3, isq_neg (by omega)]


end Go.Proofs.YtflhkldfhndafaaGreatDoor
