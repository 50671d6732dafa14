/- VerticalAt and HorizontalAt, in the program and in the reference. For every hung bell and every angle, where the table of sines reads as its initialiser lays it. -/
import Derived.Test.YtkbjampfmcegpaaDoorForce
namespace Go.Proofs.YtkbjampfmcegpaaDoor
set_option linter.unusedVariables false
open Go.RowKit

/-- the first error of a hung bell and an angle -/
noncomputable def askF (s : ByteArray) (m a f g d : Int) : Int := if hungB s m a f g = true then (if inB d (-g) g = true then 0 else 2) else 1
noncomputable def vaV (s : ByteArray) (m a f g d : Int) : Int := if askF s m a f g d = 0 then vert m f g d else 0
noncomputable def haV (s : ByteArray) (m a f g d : Int) : Int := if askF s m a f g d = 0 then hori m f g d else 0
theorem askF_zero {s : ByteArray} {m a f g d : Int} (h : askF s m a f g d = 0) : hungB s m a f g = true ∧ inB d (-g) g = true := by
  unfold askF at h
  split at h
  · split at h
    · exact ⟨by assumption, by assumption⟩
    · omega
  · omega

set_option maxHeartbeats 1000000 in
theorem swung_calls (s : ByteArray) (m a f g d : Int) (w : World) (hs : s.size ≤ maxLen) :
    Calls Tryd.prog 14 #[.agg #[.string s, .int .i64 m, .int .i64 a, .int .i64 f, .int .i64 g], .int .i64 d] w fun e w' => e = .returned (.int .i64 (askF s m a f g d)) ∧ Below w.heap.size w w' := by
  have hB := Below.refl w.heap.size w
  cases h : hungB s m a f g
  · rw [show askF s m a f g d = 1 by simp [askF, h]]
    go_enter Tryd.func14, Tryd.ntmps14
    go_wp2_with (go_at_call 22; refine (validHung_calls _ _ _ _ _ _ hs).mono ?_; rintro e w1 ⟨rfl, hb⟩; obtain ⟨hc, hf⟩ := bcell hb; have hz := hb.size; (try simp at hz); (try have hl0 : w.heap.size < w1.heap.size := by omega); (try have hl1 : w.heap.size + 1 < w1.heap.size := by omega); (try have hl2 : w.heap.size + 1 + 1 < w1.heap.size := by omega); replace hB : Below w.heap.size w w1 := Below.trans (by go_grown) (hb.mono (by go_size)); clear hb)
    go_ret
    exact ⟨rfl, hB⟩
  · obtain ⟨_, _, _, _, ⟨g0, g1⟩⟩ := hungB_of h
    cases hd : inB d (-g) g
    · rw [show askF s m a f g d = 2 by simp [askF, h, hd]]
      go_enter Tryd.func14, Tryd.ntmps14
      go_wp2_with (first | (go_at_call 22; refine (validHung_calls _ _ _ _ _ _ hs).mono ?_; rintro e w1 ⟨rfl, hb⟩; obtain ⟨hc, hf⟩ := bcell hb; have hz := hb.size; (try simp at hz); (try have hl0 : w.heap.size < w1.heap.size := by omega); (try have hl1 : w.heap.size + 1 < w1.heap.size := by omega); (try have hl2 : w.heap.size + 1 + 1 < w1.heap.size := by omega); replace hB : Below w.heap.size w w1 := Below.trans (by go_grown) (hb.mono (by go_size)); clear hb) | (go_at_call 17; refine (within_calls _ _ _ _).mono ?_; rintro e w1 ⟨rfl, rfl⟩))
      go_ret
      exact ⟨rfl, hB⟩
    · rw [show askF s m a f g d = 0 by simp [askF, h, hd]]
      go_enter Tryd.func14, Tryd.ntmps14
      go_wp2_with (first | (go_at_call 22; refine (validHung_calls _ _ _ _ _ _ hs).mono ?_; rintro e w1 ⟨rfl, hb⟩; obtain ⟨hc, hf⟩ := bcell hb; have hz := hb.size; (try simp at hz); (try have hl0 : w.heap.size < w1.heap.size := by omega); (try have hl1 : w.heap.size + 1 < w1.heap.size := by omega); (try have hl2 : w.heap.size + 1 + 1 < w1.heap.size := by omega); replace hB : Below w.heap.size w w1 := Below.trans (by go_grown) (hb.mono (by go_size)); clear hb) | (go_at_call 17; refine (within_calls _ _ _ _).mono ?_; rintro e w1 ⟨rfl, rfl⟩))
      go_ret
      exact ⟨rfl, hB⟩
set_option maxHeartbeats 1000000 in
theorem VerticalAt_calls (s : ByteArray) (m a f g d : Int) (w : World) (hs : s.size ≤ maxLen) (hT : HasTab w) :
    Calls Tryd.prog 7 #[.agg #[.string s, .int .i64 m, .int .i64 a, .int .i64 f, .int .i64 g], .int .i64 d] w fun e w' => e = .returned (.tuple #[.int .i64 (vaV s m a f g d), .int .i64 (askF s m a f g d)]) ∧ Below w.heap.size w w' := by
  have hB := Below.refl w.heap.size w
  have HT := Lib.hid hT
  have hlt := hT.lt
  clear hT
  by_cases h : askF s m a f g d = 0
  · obtain ⟨k1, k2⟩ := askF_zero h
    obtain ⟨_, ⟨m0, m1⟩, _, ⟨f0, f1⟩, _⟩ := hungB_of k1
    rw [show vaV s m a f g d = vert m f g d by simp [vaV, h], h]
    go_enter Tryd.func7, Tryd.ntmps7
    go_wp2_with (first | (go_at_call 14; refine (swung_calls _ _ _ _ _ _ _ hs).mono ?_; rintro e w1 ⟨rfl, hb⟩; obtain ⟨hc, hf⟩ := bcell hb; have hz := hb.size; (try simp at hz); (try have hl0 : w.heap.size < w1.heap.size := by omega); (try have hl1 : w.heap.size + 1 < w1.heap.size := by omega); (try have hl2 : w.heap.size + 1 + 1 < w1.heap.size := by omega); replace hB : Below w.heap.size w w1 := Below.trans (by go_grown) (hb.mono (by go_size)); clear hb; rw [h]) | (go_at_call 15; refine (vertical_calls _ _ _ _ _ _ _ (HT.out.below hB hlt) m0 m1 f0 f1).mono ?_; rintro e w1 ⟨rfl, hb⟩; obtain ⟨hc, hf⟩ := bcell hb; have hz := hb.size; (try simp at hz); (try have hl0 : w.heap.size < w1.heap.size := by omega); (try have hl1 : w.heap.size + 1 < w1.heap.size := by omega); (try have hl2 : w.heap.size + 1 + 1 < w1.heap.size := by omega); replace hB : Below w.heap.size w w1 := Below.trans (by go_grown) (hb.mono (by go_size)); clear hb))
    go_ret2
    exact ⟨rfl, hB⟩
  · rw [show vaV s m a f g d = 0 by simp [vaV, h]]
    have hne : (askF s m a f g d != 0) = true := by rw [bne_iff_ne]; exact h
    go_enter Tryd.func7, Tryd.ntmps7
    go_wp2_with (go_at_call 14; refine (swung_calls _ _ _ _ _ _ _ hs).mono ?_; rintro e w1 ⟨rfl, hb⟩; obtain ⟨hc, hf⟩ := bcell hb; have hz := hb.size; (try simp at hz); (try have hl0 : w.heap.size < w1.heap.size := by omega); (try have hl1 : w.heap.size + 1 < w1.heap.size := by omega); (try have hl2 : w.heap.size + 1 + 1 < w1.heap.size := by omega); replace hB : Below w.heap.size w w1 := Below.trans (by go_grown) (hb.mono (by go_size)); clear hb)
    go_ret2
    exact ⟨rfl, hB⟩
set_option maxHeartbeats 1000000 in
theorem HorizontalAt_calls (s : ByteArray) (m a f g d : Int) (w : World) (hs : s.size ≤ maxLen) (hT : HasTab w) :
    Calls Tryd.prog 8 #[.agg #[.string s, .int .i64 m, .int .i64 a, .int .i64 f, .int .i64 g], .int .i64 d] w fun e w' => e = .returned (.tuple #[.int .i64 (haV s m a f g d), .int .i64 (askF s m a f g d)]) ∧ Below w.heap.size w w' := by
  have hB := Below.refl w.heap.size w
  have HT := Lib.hid hT
  have hlt := hT.lt
  clear hT
  by_cases h : askF s m a f g d = 0
  · obtain ⟨k1, k2⟩ := askF_zero h
    obtain ⟨_, ⟨m0, m1⟩, _, ⟨f0, f1⟩, _⟩ := hungB_of k1
    rw [show haV s m a f g d = hori m f g d by simp [haV, h], h]
    go_enter Tryd.func8, Tryd.ntmps8
    go_wp2_with (first | (go_at_call 14; refine (swung_calls _ _ _ _ _ _ _ hs).mono ?_; rintro e w1 ⟨rfl, hb⟩; obtain ⟨hc, hf⟩ := bcell hb; have hz := hb.size; (try simp at hz); (try have hl0 : w.heap.size < w1.heap.size := by omega); (try have hl1 : w.heap.size + 1 < w1.heap.size := by omega); (try have hl2 : w.heap.size + 1 + 1 < w1.heap.size := by omega); replace hB : Below w.heap.size w w1 := Below.trans (by go_grown) (hb.mono (by go_size)); clear hb; rw [h]) | (go_at_call 16; refine (horizontal_calls _ _ _ _ _ _ _ (HT.out.below hB hlt) m0 m1 f0 f1).mono ?_; rintro e w1 ⟨rfl, hb⟩; obtain ⟨hc, hf⟩ := bcell hb; have hz := hb.size; (try simp at hz); (try have hl0 : w.heap.size < w1.heap.size := by omega); (try have hl1 : w.heap.size + 1 < w1.heap.size := by omega); (try have hl2 : w.heap.size + 1 + 1 < w1.heap.size := by omega); replace hB : Below w.heap.size w w1 := Below.trans (by go_grown) (hb.mono (by go_size)); clear hb))
    go_ret2
    exact ⟨rfl, hB⟩
  · rw [show haV s m a f g d = 0 by simp [haV, h]]
    have hne : (askF s m a f g d != 0) = true := by rw [bne_iff_ne]; exact h
    go_enter Tryd.func8, Tryd.ntmps8
    go_wp2_with (go_at_call 14; refine (swung_calls _ _ _ _ _ _ _ hs).mono ?_; rintro e w1 ⟨rfl, hb⟩; obtain ⟨hc, hf⟩ := bcell hb; have hz := hb.size; (try simp at hz); (try have hl0 : w.heap.size < w1.heap.size := by omega); (try have hl1 : w.heap.size + 1 < w1.heap.size := by omega); (try have hl2 : w.heap.size + 1 + 1 < w1.heap.size := by omega); replace hB : Below w.heap.size w w1 := Below.trans (by go_grown) (hb.mono (by go_size)); clear hb)
    go_ret2
    exact ⟨rfl, hB⟩
end Go.Proofs.YtkbjampfmcegpaaDoor
