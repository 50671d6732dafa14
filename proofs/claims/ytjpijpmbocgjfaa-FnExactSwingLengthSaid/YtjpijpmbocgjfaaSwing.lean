/- The length of a pendulum with a hung bell's period, in the program and in the reference. For every hung bell. -/
import Derived.Test.YtjpijpmbocgjfaaHung
namespace Go.Proofs.Ytjpijpmbocgjfaa
open Go.RowKit


/-- the length of a pendulum with the same period -/
def sl (a f : Int) : Int := nr (1000 * a) f
theorem sl_bd {a f : Int} (h0 : 1 ≤ a) (h1 : a ≤ 30000) (h2 : 1 ≤ f) (h3 : f ≤ 1000) : 1 ≤ sl a f ∧ sl a f ≤ 30000000 := by
  unfold sl
  refine ⟨?_, nr_le (by omega) (by omega) ?_⟩
  · have h := nr_mono (a := f) (b := f) (c := 1000 * a) (by omega) (by omega)
    have e : nr f f = 1 := by
      unfold nr
      rw [if_neg (by omega)]
      exact div_unique (r := f) (by omega) (by omega) (by omega) (by omega)
    omega
  · have := Int.mul_le_mul_of_nonneg_left h2 (show (0 : Int) ≤ 30000000 by omega)
    omega
noncomputable def slV (s : ByteArray) (m a f g : Int) : Int := if hungB s m a f g = true then sl a f else 0
noncomputable def slC (s : ByteArray) (m a f g : Int) : Int := if hungB s m a f g = true then 0 else 1

set_option maxHeartbeats 400000 in
theorem swingLength_calls (s : ByteArray) (m a f g : Int) (w : World) (h0 : 1 ≤ a) (h1 : a ≤ 30000) (h2 : 1 ≤ f) (h3 : f ≤ 1000) :
    Calls Try.prog 26 #[.agg #[.string s, .int .i64 m, .int .i64 a, .int .i64 f, .int .i64 g]] w fun e w' => e = .returned (.int .i64 (sl a f)) ∧ Below w.heap.size w w' := by
  unfold sl
  go_enter Try.func26, Try.ntmps26
  go_wp2_with (go_at_call 28; refine (nearest_calls _ _ _ (by omega) (by omega) (by omega) (by omega)).mono ?_; rintro e w1 ⟨rfl, n, rfl⟩)
  go_ret
  exact ⟨rfl, below_drewN ((Below.refl _ _).alloc (Nat.le_refl _) _) _⟩

set_option maxHeartbeats 400000 in
theorem SwingLength_calls (s : ByteArray) (m a f g : Int) (w : World) (hs : s.size ≤ maxLen) :
    Calls Try.prog 14 #[.agg #[.string s, .int .i64 m, .int .i64 a, .int .i64 f, .int .i64 g]] w fun e w' => e = .returned (.tuple #[.int .i64 (slV s m a f g), .int .i64 (slC s m a f g)]) ∧ Below w.heap.size w w' := by
  have hB := Below.refl w.heap.size w
  cases h : hungB s m a f g
  · rw [show slV s m a f g = 0 by simp [slV, h], show slC s m a f g = 1 by simp [slC, h]]
    go_enter Try.func14, Try.ntmps14
    go_wp2_with (go_at_call 12; refine (validHung_calls _ _ _ _ _ _ hs).mono ?_; rintro e w1 ⟨rfl, hb⟩; obtain ⟨hc, hf⟩ := bcell hb; have hz := hb.size; (try simp at hz); (try have hl0 : w.heap.size < w1.heap.size := by omega); (try have hl1 : w.heap.size + 1 < w1.heap.size := by omega); (try have hl2 : w.heap.size + 1 + 1 < w1.heap.size := by omega); replace hB : Below w.heap.size w w1 := Below.trans (by go_grown) (hb.mono (by go_size)); clear hb)
    go_ret2
    exact ⟨rfl, hB⟩
  · rw [show slV s m a f g = sl a f by simp [slV, h], show slC s m a f g = 0 by simp [slC, h]]
    obtain ⟨_, _, ⟨b1, b2⟩, ⟨b3, b4⟩, _⟩ := hungB_of h
    go_enter Try.func14, Try.ntmps14
    go_wp2_with (first | (go_at_call 12; refine (validHung_calls _ _ _ _ _ _ hs).mono ?_; rintro e w1 ⟨rfl, hb⟩; obtain ⟨hc, hf⟩ := bcell hb; have hz := hb.size; (try simp at hz); (try have hl0 : w.heap.size < w1.heap.size := by omega); (try have hl1 : w.heap.size + 1 < w1.heap.size := by omega); (try have hl2 : w.heap.size + 1 + 1 < w1.heap.size := by omega); replace hB : Below w.heap.size w w1 := Below.trans (by go_grown) (hb.mono (by go_size)); clear hb) | (go_at_call 26; refine (swingLength_calls _ _ _ _ _ _ b1 b2 b3 b4).mono ?_; rintro e w1 ⟨rfl, hb⟩; obtain ⟨hc, hf⟩ := bcell hb; have hz := hb.size; (try simp at hz); (try have hl0 : w.heap.size < w1.heap.size := by omega); (try have hl1 : w.heap.size + 1 < w1.heap.size := by omega); (try have hl2 : w.heap.size + 1 + 1 < w1.heap.size := by omega); replace hB : Below w.heap.size w w1 := Below.trans (by go_grown) (hb.mono (by go_size)); clear hb))
    go_ret2
    exact ⟨rfl, hB⟩

set_option maxHeartbeats 400000 in
theorem sSwingLength_calls (s : ByteArray) (m a f g : Int) (w : World) (hs : s.size ≤ maxLen) :
    Calls Try.prog 13 #[.agg #[.string s, .int .i64 m, .int .i64 a, .int .i64 f, .int .i64 g]] w fun e w' => e = .returned (.tuple #[.int .i64 (slV s m a f g), .int .i64 (slC s m a f g)]) ∧ Below w.heap.size w w' := by
  cases h : hungB s m a f g
  · rw [show slV s m a f g = 0 by simp [slV, h], show slC s m a f g = 1 by simp [slC, h]]
    go_enter Try.func13, Try.ntmps13
    go_wp2_with (go_at_call 22; refine (sokHung_calls _ s m a f g _ hs (by simp) (by simp) (by simp) (by simp) (by simp)).mono ?_; rintro e w' ⟨rfl, rfl⟩)
    go_ret2
    exact ⟨rfl, (Below.refl _ _).alloc (Nat.le_refl _) _⟩
  · rw [show slV s m a f g = sl a f by simp [slV, h], show slC s m a f g = 0 by simp [slC, h]]
    unfold sl
    obtain ⟨_, _, ⟨b1, b2⟩, ⟨b3, b4⟩, _⟩ := hungB_of h
    go_enter Try.func13, Try.ntmps13
    go_wp2_with (first | (go_at_call 22; refine (sokHung_calls _ s m a f g _ hs (by simp) (by simp) (by simp) (by simp) (by simp)).mono ?_; rintro e w' ⟨rfl, rfl⟩) | (go_at_call 25; refine (div_calls _ _ _ (by omega) (by omega) (by omega) (by omega)).mono ?_; rintro e w1 ⟨rfl, rfl⟩))
    go_ret2
    exact ⟨rfl, (Below.refl _ _).alloc (Nat.le_refl _) _⟩
end Go.Proofs.Ytjpijpmbocgjfaa
