/- VerticalAt and HorizontalAt, in the program and in the reference. For every hung bell and every angle, where the table of sines reads as its initialiser lays it. -/
import Derived.Test.YtjpijpmbocgjfaaDoorForce
namespace Go.Proofs.YtjpijpmbocgjfaaDoor
set_option linter.unusedVariables false
open Go.RowKit

/-- the first error of a hung bell and an angle -/
noncomputable def askF (s : ByteArray) (m a f g d : Int) : Int := if hungB s m a f g = true then (if inB d (-g) g = true then 0 else 2) else 1
noncomputable def vaV (s : ByteArray) (m a f g d : Int) : Int := if askF s m a f g d = 0 then vert m f g d else 0
noncomputable def haV (s : ByteArray) (m a f g d : Int) : Int := if askF s m a f g d = 0 then hori m f g d else 0
theorem askF_zero {s : ByteArray} {m a f g d : Int} (h : askF s m a f g d = 0) : hungB s m a f g = true ∧ inB d (-g) g = true := by
  unfold askF at h
  split at h
  · split at h
    · exact ⟨by assumption, by assumption⟩
    · omega
  · omega

set_option maxHeartbeats 1000000 in
theorem swung_calls (s : ByteArray) (m a f g d : Int) (w : World) (hs : s.size ≤ maxLen) :
    Calls Tryd.prog 34 #[.agg #[.string s, .int .i64 m, .int .i64 a, .int .i64 f, .int .i64 g], .int .i64 d] w fun e w' => e = .returned (.int .i64 (askF s m a f g d)) ∧ Below w.heap.size w w' := by
  have hB := Below.refl w.heap.size w
  cases h : hungB s m a f g
  · rw [show askF s m a f g d = 1 by simp [askF, h]]
    go_enter Tryd.func34, Tryd.ntmps34
    go_wp2_with (go_at_call 40; refine (validHung_calls _ _ _ _ _ _ hs).mono ?_; rintro e w1 ⟨rfl, hb⟩; obtain ⟨hc, hf⟩ := bcell hb; have hz := hb.size; (try simp at hz); (try have hl0 : w.heap.size < w1.heap.size := by omega); (try have hl1 : w.heap.size + 1 < w1.heap.size := by omega); (try have hl2 : w.heap.size + 1 + 1 < w1.heap.size := by omega); replace hB : Below w.heap.size w w1 := Below.trans (by go_grown) (hb.mono (by go_size)); clear hb)
    go_ret
    exact ⟨rfl, hB⟩
  · obtain ⟨_, _, _, _, ⟨g0, g1⟩⟩ := hungB_of h
    cases hd : inB d (-g) g
    · rw [show askF s m a f g d = 2 by simp [askF, h, hd]]
      go_enter Tryd.func34, Tryd.ntmps34
      go_wp2_with (first | (go_at_call 40; refine (validHung_calls _ _ _ _ _ _ hs).mono ?_; rintro e w1 ⟨rfl, hb⟩; obtain ⟨hc, hf⟩ := bcell hb; have hz := hb.size; (try simp at hz); (try have hl0 : w.heap.size < w1.heap.size := by omega); (try have hl1 : w.heap.size + 1 < w1.heap.size := by omega); (try have hl2 : w.heap.size + 1 + 1 < w1.heap.size := by omega); replace hB : Below w.heap.size w w1 := Below.trans (by go_grown) (hb.mono (by go_size)); clear hb) | (go_at_call 49; refine (within_calls _ _ _ _).mono ?_; rintro e w1 ⟨rfl, rfl⟩))
      go_ret
      exact ⟨rfl, hB⟩
    · rw [show askF s m a f g d = 0 by simp [askF, h, hd]]
      go_enter Tryd.func34, Tryd.ntmps34
      go_wp2_with (first | (go_at_call 40; refine (validHung_calls _ _ _ _ _ _ hs).mono ?_; rintro e w1 ⟨rfl, hb⟩; obtain ⟨hc, hf⟩ := bcell hb; have hz := hb.size; (try simp at hz); (try have hl0 : w.heap.size < w1.heap.size := by omega); (try have hl1 : w.heap.size + 1 < w1.heap.size := by omega); (try have hl2 : w.heap.size + 1 + 1 < w1.heap.size := by omega); replace hB : Below w.heap.size w w1 := Below.trans (by go_grown) (hb.mono (by go_size)); clear hb) | (go_at_call 49; refine (within_calls _ _ _ _).mono ?_; rintro e w1 ⟨rfl, rfl⟩))
      go_ret
      exact ⟨rfl, hB⟩
set_option maxHeartbeats 1000000 in
theorem sask_calls (s : ByteArray) (m a f g d : Int) (b : Nat) (w : World) (hs : s.size ≤ maxLen) (c0 : w.cell? ⟨b, 0, none⟩ = some (.string s)) (c1 : w.cell? ⟨b, 1, none⟩ = some (.int .i64 m)) (c2 : w.cell? ⟨b, 2, none⟩ = some (.int .i64 a)) (c3 : w.cell? ⟨b, 3, none⟩ = some (.int .i64 f)) (c4 : w.cell? ⟨b, 4, none⟩ = some (.int .i64 g)) :
    Calls Tryd.prog 32 #[.pointer (some ⟨b, 0, none⟩), .int .i64 d] w fun e w' => e = .returned (.int .i64 (askF s m a f g d)) ∧ ∃ n, w' = w.drewN n := by
  cases h : hungB s m a f g
  · rw [show askF s m a f g d = 1 by simp [askF, h]]
    go_enter Tryd.func32, Tryd.ntmps32
    go_wp2_with (go_at_call 38; refine (sokHung_calls _ s m a f g _ hs c0 c1 c2 c3 c4).mono ?_; rintro e w1 ⟨rfl, rfl⟩)
    go_ret
    exact ⟨rfl, 0, rfl⟩
  · obtain ⟨_, _, _, _, ⟨g0, g1⟩⟩ := hungB_of h
    have e1 : IntKind.i64.wrap (-g) = -g := IntWalk.i64_in _ ⟨by omega, by omega⟩
    cases hd : inB d (-g) g
    · rw [show askF s m a f g d = 2 by simp [askF, h, hd]]
      go_enter Tryd.func32, Tryd.ntmps32
      go_wp2_with (go_at_call 38; refine (sokHung_calls _ s m a f g _ hs c0 c1 c2 c3 c4).mono ?_; rintro e w1 ⟨rfl, rfl⟩)
      go_quiet ((go_at_call 46; exact quiet_left (in_calls _ _ _ _)))
      go_wp2
      go_ret
      exact ⟨rfl, _, rfl⟩
    · rw [show askF s m a f g d = 0 by simp [askF, h, hd]]
      go_enter Tryd.func32, Tryd.ntmps32
      go_wp2_with (go_at_call 38; refine (sokHung_calls _ s m a f g _ hs c0 c1 c2 c3 c4).mono ?_; rintro e w1 ⟨rfl, rfl⟩)
      go_quiet ((go_at_call 46; exact quiet_left (in_calls _ _ _ _)))
      go_wp2
      go_ret
      exact ⟨rfl, _, rfl⟩

set_option maxHeartbeats 1000000 in
theorem VerticalAt_calls (s : ByteArray) (m a f g d : Int) (w : World) (hs : s.size ≤ maxLen) (hT : HasTab w) :
    Calls Tryd.prog 20 #[.agg #[.string s, .int .i64 m, .int .i64 a, .int .i64 f, .int .i64 g], .int .i64 d] w fun e w' => e = .returned (.tuple #[.int .i64 (vaV s m a f g d), .int .i64 (askF s m a f g d)]) ∧ Below w.heap.size w w' := by
  have hB := Below.refl w.heap.size w
  have HT := Lib.hid hT
  have hlt := hT.lt
  clear hT
  by_cases h : askF s m a f g d = 0
  · obtain ⟨k1, k2⟩ := askF_zero h
    obtain ⟨_, ⟨m0, m1⟩, _, ⟨f0, f1⟩, _⟩ := hungB_of k1
    rw [show vaV s m a f g d = vert m f g d by simp [vaV, h], h]
    go_enter Tryd.func20, Tryd.ntmps20
    go_wp2_with (first | (go_at_call 34; refine (swung_calls _ _ _ _ _ _ _ hs).mono ?_; rintro e w1 ⟨rfl, hb⟩; obtain ⟨hc, hf⟩ := bcell hb; have hz := hb.size; (try simp at hz); (try have hl0 : w.heap.size < w1.heap.size := by omega); (try have hl1 : w.heap.size + 1 < w1.heap.size := by omega); (try have hl2 : w.heap.size + 1 + 1 < w1.heap.size := by omega); replace hB : Below w.heap.size w w1 := Below.trans (by go_grown) (hb.mono (by go_size)); clear hb; rw [h]) | (go_at_call 37; refine (vertical_calls _ _ _ _ _ _ _ (HT.out.below hB hlt) m0 m1 f0 f1).mono ?_; rintro e w1 ⟨rfl, hb⟩; obtain ⟨hc, hf⟩ := bcell hb; have hz := hb.size; (try simp at hz); (try have hl0 : w.heap.size < w1.heap.size := by omega); (try have hl1 : w.heap.size + 1 < w1.heap.size := by omega); (try have hl2 : w.heap.size + 1 + 1 < w1.heap.size := by omega); replace hB : Below w.heap.size w w1 := Below.trans (by go_grown) (hb.mono (by go_size)); clear hb))
    go_ret2
    exact ⟨rfl, hB⟩
  · rw [show vaV s m a f g d = 0 by simp [vaV, h]]
    have hne : (askF s m a f g d != 0) = true := by rw [bne_iff_ne]; exact h
    go_enter Tryd.func20, Tryd.ntmps20
    go_wp2_with (go_at_call 34; refine (swung_calls _ _ _ _ _ _ _ hs).mono ?_; rintro e w1 ⟨rfl, hb⟩; obtain ⟨hc, hf⟩ := bcell hb; have hz := hb.size; (try simp at hz); (try have hl0 : w.heap.size < w1.heap.size := by omega); (try have hl1 : w.heap.size + 1 < w1.heap.size := by omega); (try have hl2 : w.heap.size + 1 + 1 < w1.heap.size := by omega); replace hB : Below w.heap.size w w1 := Below.trans (by go_grown) (hb.mono (by go_size)); clear hb)
    go_ret2
    exact ⟨rfl, hB⟩
set_option maxHeartbeats 1000000 in
theorem sVerticalAt_calls (s : ByteArray) (m a f g d : Int) (w : World) (hs : s.size ≤ maxLen) :
    Calls Tryd.prog 19 #[.agg #[.string s, .int .i64 m, .int .i64 a, .int .i64 f, .int .i64 g], .int .i64 d] w fun e w' => e = .returned (.tuple #[.int .i64 (vaV s m a f g d), .int .i64 (askF s m a f g d)]) ∧ Below w.heap.size w w' := by
  by_cases h : askF s m a f g d = 0
  · obtain ⟨k1, k2⟩ := askF_zero h
    obtain ⟨_, ⟨m0, m1⟩, _, ⟨f0, f1⟩, _⟩ := hungB_of k1
    rw [show vaV s m a f g d = vert m f g d by simp [vaV, h], h]
    go_enter Tryd.func19, Tryd.ntmps19
    go_wp2_with (first | (go_at_call 32; refine (sask_calls s m a f g _ _ _ hs (by simp) (by simp) (by simp) (by simp) (by simp)).mono ?_; rintro e w1 ⟨rfl, nd, rfl⟩; rw [h]) | (go_at_call 36; refine (svertical_calls m f g _ _ _ m0 m1 f0 f1 (by simp) (by simp) (by simp)).mono ?_; rintro e w2 ⟨rfl, hb⟩))
    go_ret2
    exact ⟨rfl, (below_drewN ((Below.refl _ _).alloc (Nat.le_refl _) _) _).trans (hb.mono (by simp))⟩
  · rw [show vaV s m a f g d = 0 by simp [vaV, h]]
    have hne : (askF s m a f g d != 0) = true := by rw [bne_iff_ne]; exact h
    go_enter Tryd.func19, Tryd.ntmps19
    go_wp2_with (go_at_call 32; refine (sask_calls s m a f g _ _ _ hs (by simp) (by simp) (by simp) (by simp) (by simp)).mono ?_; rintro e w1 ⟨rfl, nd, rfl⟩)
    go_ret2
    exact ⟨rfl, below_drewN ((Below.refl _ _).alloc (Nat.le_refl _) _) _⟩
set_option maxHeartbeats 1000000 in
theorem HorizontalAt_calls (s : ByteArray) (m a f g d : Int) (w : World) (hs : s.size ≤ maxLen) (hT : HasTab w) :
    Calls Tryd.prog 18 #[.agg #[.string s, .int .i64 m, .int .i64 a, .int .i64 f, .int .i64 g], .int .i64 d] w fun e w' => e = .returned (.tuple #[.int .i64 (haV s m a f g d), .int .i64 (askF s m a f g d)]) ∧ Below w.heap.size w w' := by
  have hB := Below.refl w.heap.size w
  have HT := Lib.hid hT
  have hlt := hT.lt
  clear hT
  by_cases h : askF s m a f g d = 0
  · obtain ⟨k1, k2⟩ := askF_zero h
    obtain ⟨_, ⟨m0, m1⟩, _, ⟨f0, f1⟩, _⟩ := hungB_of k1
    rw [show haV s m a f g d = hori m f g d by simp [haV, h], h]
    go_enter Tryd.func18, Tryd.ntmps18
    go_wp2_with (first | (go_at_call 34; refine (swung_calls _ _ _ _ _ _ _ hs).mono ?_; rintro e w1 ⟨rfl, hb⟩; obtain ⟨hc, hf⟩ := bcell hb; have hz := hb.size; (try simp at hz); (try have hl0 : w.heap.size < w1.heap.size := by omega); (try have hl1 : w.heap.size + 1 < w1.heap.size := by omega); (try have hl2 : w.heap.size + 1 + 1 < w1.heap.size := by omega); replace hB : Below w.heap.size w w1 := Below.trans (by go_grown) (hb.mono (by go_size)); clear hb; rw [h]) | (go_at_call 35; refine (horizontal_calls _ _ _ _ _ _ _ (HT.out.below hB hlt) m0 m1 f0 f1).mono ?_; rintro e w1 ⟨rfl, hb⟩; obtain ⟨hc, hf⟩ := bcell hb; have hz := hb.size; (try simp at hz); (try have hl0 : w.heap.size < w1.heap.size := by omega); (try have hl1 : w.heap.size + 1 < w1.heap.size := by omega); (try have hl2 : w.heap.size + 1 + 1 < w1.heap.size := by omega); replace hB : Below w.heap.size w w1 := Below.trans (by go_grown) (hb.mono (by go_size)); clear hb))
    go_ret2
    exact ⟨rfl, hB⟩
  · rw [show haV s m a f g d = 0 by simp [haV, h]]
    have hne : (askF s m a f g d != 0) = true := by rw [bne_iff_ne]; exact h
    go_enter Tryd.func18, Tryd.ntmps18
    go_wp2_with (go_at_call 34; refine (swung_calls _ _ _ _ _ _ _ hs).mono ?_; rintro e w1 ⟨rfl, hb⟩; obtain ⟨hc, hf⟩ := bcell hb; have hz := hb.size; (try simp at hz); (try have hl0 : w.heap.size < w1.heap.size := by omega); (try have hl1 : w.heap.size + 1 < w1.heap.size := by omega); (try have hl2 : w.heap.size + 1 + 1 < w1.heap.size := by omega); replace hB : Below w.heap.size w w1 := Below.trans (by go_grown) (hb.mono (by go_size)); clear hb)
    go_ret2
    exact ⟨rfl, hB⟩
set_option maxHeartbeats 1000000 in
theorem sHorizontalAt_calls (s : ByteArray) (m a f g d : Int) (w : World) (hs : s.size ≤ maxLen) :
    Calls Tryd.prog 16 #[.agg #[.string s, .int .i64 m, .int .i64 a, .int .i64 f, .int .i64 g], .int .i64 d] w fun e w' => e = .returned (.tuple #[.int .i64 (haV s m a f g d), .int .i64 (askF s m a f g d)]) ∧ Below w.heap.size w w' := by
  by_cases h : askF s m a f g d = 0
  · obtain ⟨k1, k2⟩ := askF_zero h
    obtain ⟨_, ⟨m0, m1⟩, _, ⟨f0, f1⟩, _⟩ := hungB_of k1
    rw [show haV s m a f g d = hori m f g d by simp [haV, h], h]
    go_enter Tryd.func16, Tryd.ntmps16
    go_wp2_with (first | (go_at_call 32; refine (sask_calls s m a f g _ _ _ hs (by simp) (by simp) (by simp) (by simp) (by simp)).mono ?_; rintro e w1 ⟨rfl, nd, rfl⟩; rw [h]) | (go_at_call 33; refine (shorizontal_calls m f g _ _ _ m0 m1 f0 f1 (by simp) (by simp) (by simp)).mono ?_; rintro e w2 ⟨rfl, hb⟩))
    go_ret2
    exact ⟨rfl, (below_drewN ((Below.refl _ _).alloc (Nat.le_refl _) _) _).trans (hb.mono (by simp))⟩
  · rw [show haV s m a f g d = 0 by simp [haV, h]]
    have hne : (askF s m a f g d != 0) = true := by rw [bne_iff_ne]; exact h
    go_enter Tryd.func16, Tryd.ntmps16
    go_wp2_with (go_at_call 32; refine (sask_calls s m a f g _ _ _ hs (by simp) (by simp) (by simp) (by simp) (by simp)).mono ?_; rintro e w1 ⟨rfl, nd, rfl⟩)
    go_ret2
    exact ⟨rfl, below_drewN ((Below.refl _ _).alloc (Nat.le_refl _) _) _⟩
end Go.Proofs.YtjpijpmbocgjfaaDoor
