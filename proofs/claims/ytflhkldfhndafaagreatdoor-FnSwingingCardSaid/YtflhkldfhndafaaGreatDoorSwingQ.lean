/- Sines and cosines have their symmetries, longer arms swing more slowly: what the numbers satisfy. No program in sight. -/
import Derived.Test.YtflhkldfhndafaaGreatDoorPeriod
import Derived.Test.YtflhkldfhndafaaGreatDoorCounter
namespace Go.Proofs.YtflhkldfhndafaaGreatDoor
set_option linter.unusedVariables false
open Go.RowKit
set_option maxRecDepth 100000 in
theorem sinK_all : ∀ k, k < 360 → (998000 ≤ sinK k * sinK k + sinK ((k + 90) % 360) * sinK ((k + 90) % 360) ∧ sinK k * sinK k + sinK ((k + 90) % 360) * sinK ((k + 90) % 360) ≤ 1002000) ∧ sinK ((360 - k) % 360) = -sinK k ∧ sinK (((360 - k) % 360 + 90) % 360) = sinK ((k + 90) % 360) ∧ sinK ((k + 180) % 360) = -sinK k := by decide +kernel
theorem sin_law (d : Int) : (998000 ≤ sinF d * sinF d + cosF d * cosF d ∧ sinF d * sinF d + cosF d * cosF d ≤ 1002000) ∧ sinF (-d) = -sinF d ∧ cosF (-d) = cosF d ∧ sinF (d + 180) = -sinF d ∧ sinF (d + 360) = sinF d := by
  obtain ⟨k, hk⟩ : ∃ k, k = (d % 360).toNat := ⟨_, rfl⟩
  have k1 : k < 360 := by omega
  have e1 : sinF d = sinK k := by unfold sinF; congr 1; omega
  have e2 : cosF d = sinK ((k + 90) % 360) := by unfold cosF sinF; congr 1; omega
  have e3 : sinF (-d) = sinK ((360 - k) % 360) := by unfold sinF; congr 1; omega
  have e4 : cosF (-d) = sinK (((360 - k) % 360 + 90) % 360) := by unfold cosF sinF; congr 1; omega
  have e5 : sinF (d + 180) = sinK ((k + 180) % 360) := by unfold sinF; congr 1; omega
  have e6 : sinF (d + 360) = sinK k := by unfold sinF; congr 1; omega
  rw [e1, e2, e3, e4, e5, e6]
  obtain ⟨h1, h2, h3, h4⟩ := sinK_all k k1
  exact ⟨h1, h2, h3, h4, rfl⟩
theorem perF_mono {a b f : Int} (g : Int) (h : a ≤ b) (f0 : 1 ≤ f) : perF a f g ≤ perF b f g := by
  have h1 : sl a f ≤ sl b f := nr_mono (by omega) (by omega)
  have h2 : rtF a f ≤ rtF b f := isq_mono (by omega)
  obtain ⟨q0, q1⟩ := qF_bd g
  have a0 := Int.mul_nonneg (show 0 ≤ 9 * qF g by omega) q0
  have h3 : rtF a f * (16000 * qF g + 9 * qF g * qF g) ≤ rtF b f * (16000 * qF g + 9 * qF g * qF g) := Int.mul_le_mul_of_nonneg_right h2 (by omega)
  have h4 : nr (rtF a f * (16000 * qF g + 9 * qF g * qF g)) 64000000 ≤ nr (rtF b f * (16000 * qF g + 9 * qF g * qF g)) 64000000 := nr_mono (by omega) h3
  unfold perF
  omega
theorem perF_one {a f : Int} (g : Int) (a0 : 1 ≤ a) (a1 : a ≤ 30000) (f0 : 1 ≤ f) (f1 : f ≤ 1000) : 1 ≤ perF a f g := by
  obtain ⟨h0, h1⟩ := sl_bd a0 a1 f0 f1
  have e : isq 402 = 20 := isq_unique (by omega) (by omega) (by omega)
  have h2 : isq 402 ≤ rtF a f := isq_mono (by omega)
  obtain ⟨q0, q1⟩ := qF_bd g
  have c0 := Int.mul_nonneg (show 0 ≤ 9 * qF g by omega) q0
  have h3 : 0 ≤ nr (rtF a f * (16000 * qF g + 9 * qF g * qF g)) 64000000 := nr_nonneg (Int.mul_nonneg (by omega) (by omega)) (by omega)
  unfold perF
  omega
/-- what a counterweight gives of a bell that is valid -/
theorem cw_law {s : ByteArray} {m a f g ms ar : Int} {x0 : ByteArray} {x1 x2 x3 x4 z : Int} (hv : hungB s m a f g = true) (s0 : 1 ≤ ms) (s1 : ms ≤ 20000000) (r0 : 1 ≤ ar) (r1 : ar ≤ 30000) (h : CwOut s m a f g ms ar x0 x1 x2 x3 x4 z) :
    z = 6 ∨ (z = 0 ∧ x0 = s ∧ x1 = m + ms ∧ x2 ≤ a ∧ hungB x0 x1 x2 x3 x4 = true) := by
  have hr : (inB ms 1 20000000 && inB ar 1 30000) = true := by rw [inB_yes s0 s1, inB_yes r0 r1]; rfl
  rcases h with ⟨h1, -⟩ | ⟨-, h1, -⟩ | ⟨-, -, -, -, -, -, -, -, rfl⟩ | ⟨-, -, -, -, -, -, -, -, -, rfl⟩ | ⟨-, -, hm, ho, rfl, rfl, rfl, rfl, rfl, rfl⟩
  · rw [hv] at h1; cases h1
  · rw [hr] at h1; cases h1
  · exact Or.inl rfl
  · exact Or.inl rfl
  · refine Or.inr ⟨rfl, rfl, rfl, ?_, ho⟩
    obtain ⟨-, ⟨m0, m1⟩, ⟨a0, a1⟩, -⟩ := hungB_of hv
    have h1 := Int.mul_nonneg (show 0 ≤ ms by omega) (show 0 ≤ ar by omega)
    have h2 := Int.mul_nonneg (show 0 ≤ a by omega) (show 0 ≤ ms by omega)
    have h3 : a * (m + ms) = m * a + a * ms := by rw [Int.mul_add, Int.mul_comm a m]
    unfold cwA cwM
    exact nr_le (by omega) (by omega) (by omega)
end Go.Proofs.YtflhkldfhndafaaGreatDoor
