/- Plain law of the forces: the same on both sides, the greatest pull when the bell hangs down, no push there. No program in sight. -/
import Derived.Test.YtkbjampfmcegpaaDoorGreat
namespace Go.Proofs.YtkbjampfmcegpaaDoor
set_option linter.unusedVariables false
theorem trig_tab : ∀ d : Fin 181, (cosF (-(d.val : Int)) = cosF d.val ∧ sinF (-(d.val : Int)) = -sinF d.val) ∧ (d.val < 180 → cosF ((d.val : Int) + 1) ≤ cosF d.val) := by decide +kernel
theorem cos_even {d : Int} (h0 : 0 ≤ d) (h1 : d ≤ 180) : cosF (-d) = cosF d := by
  obtain ⟨k, rfl⟩ := Int.eq_ofNat_of_zero_le h0
  exact (trig_tab ⟨k, by omega⟩).1.1
theorem sin_odd {d : Int} (h0 : 0 ≤ d) (h1 : d ≤ 180) : sinF (-d) = -sinF d := by
  obtain ⟨k, rfl⟩ := Int.eq_ofNat_of_zero_le h0
  exact (trig_tab ⟨k, by omega⟩).1.2
theorem cos_anti (k : Nat) : ∀ j : Nat, k + j ≤ 180 → cosF ((k + j : Nat) : Int) ≤ cosF (k : Int)
  | 0, _ => Int.le_refl _
  | j + 1, h => by
    have a := cos_anti k j (by omega)
    have b := (trig_tab ⟨k + j, by omega⟩).2 (by show k + j < 180; omega)
    have e : ((k + (j + 1) : Nat) : Int) = ((k + j : Nat) : Int) + 1 := by omega
    rw [e]
    exact Int.le_trans b a
theorem cos_zero : cosF 0 = 1000 := by decide +kernel
theorem sin_zero : sinF 0 = 0 := by decide +kernel
theorem nr_odd {a b : Int} (hb : 0 < b) : nr (-a) b = -nr a b := by
  by_cases h : a < 0
  · rw [nr_neg a b h, Int.neg_neg]
  · by_cases h2 : a = 0
    · subst h2
      have x := nr_nonneg (a := 0) (b := b) (by omega) hb
      have y := nr_le (a := 0) (b := b) (c := 0) hb (by omega) (by omega)
      rw [Int.neg_zero]
      omega
    · rw [nr_neg (-a) b (by omega), Int.neg_neg]
theorem quad {c a : Int} (c1 : c ≤ 1000) (hc : a ≤ c) (a0 : -1000 ≤ a) : 3 * c * c - 2 * a * c ≤ 3 * 1000 * 1000 - 2 * a * 1000 := by
  have h := Int.mul_nonneg (show 0 ≤ 1000 - c by omega) (show 0 ≤ 3000 + (3 * c - 2 * a) by omega)
  rw [Int.sub_mul, Int.mul_add, Int.mul_add, Int.mul_sub, Int.mul_sub] at h
  have e1 : c * (3 * c) = 3 * c * c := Int.mul_comm _ _
  have e2 : c * (2 * a) = 2 * a * c := Int.mul_comm _ _
  rw [e1, e2] at h
  omega
theorem vert_most {m f g d : Int} (m0 : 1 ≤ m) (m1 : m ≤ 20000000) (f0 : 1 ≤ f) (hd : 0 ≤ d) (hg : d ≤ g) (g1 : g ≤ 180) : vert m f g d ≤ vert m f g 0 := by
  obtain ⟨b0, b1⟩ := wt_bd (show 0 ≤ m by omega) m1
  obtain ⟨k, rfl⟩ := Int.eq_ofNat_of_zero_le hd
  obtain ⟨j, hj⟩ := Int.eq_ofNat_of_zero_le (show 0 ≤ g - k by omega)
  have ha := cos_anti k j (by omega)
  have e : ((k + j : Nat) : Int) = g := by omega
  rw [e] at ha
  obtain ⟨c0, c1⟩ := cosF_bd (k : Int)
  obtain ⟨a0, a1⟩ := cosF_bd g
  have hq := quad c1 ha a0
  have hwf := Int.mul_nonneg b0 (show 0 ≤ f by omega)
  have hm := Int.mul_le_mul_of_nonneg_left (show 3 * cosF k * cosF k - 2 * cosF g * cosF k - 1000000 ≤ 3 * 1000 * 1000 - 2 * cosF g * 1000 - 1000000 by omega) hwf
  have := nr_mono (b := 1000000000) (by omega) hm
  unfold vert vF
  rw [cos_zero]
  omega
theorem vert_zero {m f g : Int} (m0 : 1 ≤ m) (m1 : m ≤ 20000000) (f0 : 1 ≤ f) : wt m ≤ vert m f g 0 := by
  obtain ⟨b0, b1⟩ := wt_bd (show 0 ≤ m by omega) m1
  obtain ⟨a0, a1⟩ := cosF_bd g
  have hwf := Int.mul_nonneg b0 (show 0 ≤ f by omega)
  have hm := Int.mul_nonneg hwf (show 0 ≤ 3 * 1000 * 1000 - 2 * cosF g * 1000 - 1000000 by omega)
  have := nr_nonneg (b := 1000000000) hm (by omega)
  unfold vert vF
  rw [cos_zero]
  omega
theorem vert_even {m f g d : Int} (h0 : 0 ≤ d) (h1 : d ≤ 180) : vert m f g (-d) = vert m f g d := by
  unfold vert
  rw [cos_even h0 h1]
theorem hori_odd {m f g d : Int} (h0 : 0 ≤ d) (h1 : d ≤ 180) : hori m f g (-d) = -hori m f g d := by
  unfold hori hF
  rw [cos_even h0 h1, sin_odd h0 h1, Int.mul_neg, nr_odd (by omega)]
theorem hori_zero {m f g : Int} : hori m f g 0 = 0 := by
  unfold hori hF
  rw [sin_zero, Int.mul_zero]
  have x := nr_nonneg (a := 0) (b := 1000000000) (by omega) (by omega)
  have y := nr_le (a := 0) (b := 1000000000) (c := 0) (by omega) (by omega) (by omega)
  omega
theorem best_ge {V : Int → Int} : ∀ (n k : Nat), k ≤ n → V k ≤ (best V n).1
  | 0, k, h => by
    obtain rfl : k = 0 := by omega
    exact Int.le_refl _
  | n + 1, k, h => by
    by_cases hb : (best V n).1 < V ((n : Int) + 1)
    · rw [best_up hb]
      rcases Nat.lt_or_ge k (n + 1) with q | q
      · have := best_ge (V := V) n k (by omega)
        show V k ≤ V ((n : Int) + 1)
        omega
      · obtain rfl : k = n + 1 := by omega
        exact Int.le_refl _
    · rw [best_stay hb]
      rcases Nat.lt_or_ge k (n + 1) with q | q
      · exact best_ge n k (by omega)
      · obtain rfl : k = n + 1 := by omega
        have e : ((n + 1 : Nat) : Int) = (n : Int) + 1 := by omega
        rw [e]
        omega
theorem best_first {V : Int → Int} : ∀ n : Nat, (∀ k : Nat, k ≤ n → V k ≤ V 0) → best V n = (V 0, 0)
  | 0, _ => rfl
  | n + 1, h => by
    have ih := best_first n fun k hk => h k (by omega)
    have h2 := h (n + 1) (by omega)
    have e : ((n + 1 : Nat) : Int) = (n : Int) + 1 := by omega
    rw [e] at h2
    rw [best_stay (by rw [ih]; show ¬ V 0 < _; omega)]
    exact ih
theorem wt_one {m : Int} (h : 1000 ≤ m) : 1 ≤ wt m := by
  have := nr_mono (a := 100000) (b := 100000) (c := m * 981) (by omega) (by omega)
  have e : nr 100000 100000 = 1 := by decide +kernel
  unfold wt
  omega
end Go.Proofs.YtkbjampfmcegpaaDoor
