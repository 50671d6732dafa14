/- Hung bells: what makes one valid, in the program and in the reference; the mirror's copy, size and comparison. For all fields that the model can hold. -/
import Derived.Test.YtkbjampfmcegpaaDoorName
import Derived.Test.YtkbjampfmcegpaaDoorPred
import Derived.Handy
namespace Go.Proofs.YtkbjampfmcegpaaDoor
set_option linter.unusedVariables false
open Go.RowKit

/-- Is a hung bell valid? -/
noncomputable def hungB (s : ByteArray) (m a f g : Int) : Bool := nameB s && (inB m 1 20000000 && (inB a 1 30000 && (inB f 1 1000 && inB g 1 180)))
theorem hungB_of {s : ByteArray} {m a f g : Int} (h : hungB s m a f g = true) : nameB s = true ∧ (1 ≤ m ∧ m ≤ 20000000) ∧ (1 ≤ a ∧ a ≤ 30000) ∧ (1 ≤ f ∧ f ≤ 1000) ∧ (1 ≤ g ∧ g ≤ 180) := by
  simp only [hungB, Bool.and_eq_true] at h
  exact ⟨h.1, inB_iff.1 h.2.1, inB_iff.1 h.2.2.1, inB_iff.1 h.2.2.2.1, inB_iff.1 h.2.2.2.2⟩



set_option maxHeartbeats 1000000 in
theorem validHung_calls (s : ByteArray) (m a f g : Int) (w : World) (hs : s.size ≤ maxLen) :
    Calls Tryd.prog 22 #[.agg #[.string s, .int .i64 m, .int .i64 a, .int .i64 f, .int .i64 g]] w fun e w' => e = .returned (.bool (hungB s m a f g)) ∧ Below w.heap.size w w' := by
  unfold hungB
  cases hN : nameB s
  ·
    go_enter Tryd.func22, Tryd.ntmps22
    go_wp2_with (first | (go_at_call 27; refine (isName_calls _ _ hs).mono ?_; rintro e w1 ⟨rfl, hb⟩; rw [hN]; obtain ⟨hc1, hf1⟩ := bcell hb; have hb1 := Lib.hid hb; clear hb) | (go_at_call 28; refine (isMass_calls _ _).mono ?_; rintro e w' ⟨rfl, rfl⟩) | (go_at_call 17; refine (within_calls _ _ _ _).mono ?_; rintro e w' ⟨rfl, rfl⟩))
    go_ret
    exact ⟨rfl, (((Below.refl _ _).alloc (Nat.le_refl _) _).trans (hb1.out.mono (by simp)))⟩
  · cases hM : inB m 1 20000000
    ·
      go_enter Tryd.func22, Tryd.ntmps22
      go_wp2_with (first | (go_at_call 27; refine (isName_calls _ _ hs).mono ?_; rintro e w1 ⟨rfl, hb⟩; rw [hN]; obtain ⟨hc1, hf1⟩ := bcell hb; have hb1 := Lib.hid hb; clear hb) | (go_at_call 28; refine (isMass_calls _ _).mono ?_; rintro e w' ⟨rfl, rfl⟩) | (go_at_call 17; refine (within_calls _ _ _ _).mono ?_; rintro e w' ⟨rfl, rfl⟩))
      go_ret
      exact ⟨rfl, (((Below.refl _ _).alloc (Nat.le_refl _) _).trans (hb1.out.mono (by simp)))⟩
    · cases hA : inB a 1 30000
      ·
        go_enter Tryd.func22, Tryd.ntmps22
        go_wp2_with (first | (go_at_call 27; refine (isName_calls _ _ hs).mono ?_; rintro e w1 ⟨rfl, hb⟩; rw [hN]; obtain ⟨hc1, hf1⟩ := bcell hb; have hb1 := Lib.hid hb; clear hb) | (go_at_call 28; refine (isMass_calls _ _).mono ?_; rintro e w' ⟨rfl, rfl⟩) | (go_at_call 17; refine (within_calls _ _ _ _).mono ?_; rintro e w' ⟨rfl, rfl⟩))
        go_ret
        exact ⟨rfl, (((Below.refl _ _).alloc (Nat.le_refl _) _).trans (hb1.out.mono (by simp)))⟩
      · cases hF : inB f 1 1000
        ·
          go_enter Tryd.func22, Tryd.ntmps22
          go_wp2_with (first | (go_at_call 27; refine (isName_calls _ _ hs).mono ?_; rintro e w1 ⟨rfl, hb⟩; rw [hN]; obtain ⟨hc1, hf1⟩ := bcell hb; have hb1 := Lib.hid hb; clear hb) | (go_at_call 28; refine (isMass_calls _ _).mono ?_; rintro e w' ⟨rfl, rfl⟩) | (go_at_call 17; refine (within_calls _ _ _ _).mono ?_; rintro e w' ⟨rfl, rfl⟩))
          go_ret
          exact ⟨rfl, (((Below.refl _ _).alloc (Nat.le_refl _) _).trans (hb1.out.mono (by simp)))⟩
        · cases hG : inB g 1 180
          ·
            go_enter Tryd.func22, Tryd.ntmps22
            go_wp2_with (first | (go_at_call 27; refine (isName_calls _ _ hs).mono ?_; rintro e w1 ⟨rfl, hb⟩; rw [hN]; obtain ⟨hc1, hf1⟩ := bcell hb; have hb1 := Lib.hid hb; clear hb) | (go_at_call 28; refine (isMass_calls _ _).mono ?_; rintro e w' ⟨rfl, rfl⟩) | (go_at_call 17; refine (within_calls _ _ _ _).mono ?_; rintro e w' ⟨rfl, rfl⟩))
            go_ret
            exact ⟨rfl, (((Below.refl _ _).alloc (Nat.le_refl _) _).trans (hb1.out.mono (by simp)))⟩
          ·
            go_enter Tryd.func22, Tryd.ntmps22
            go_wp2_with (first | (go_at_call 27; refine (isName_calls _ _ hs).mono ?_; rintro e w1 ⟨rfl, hb⟩; rw [hN]; obtain ⟨hc1, hf1⟩ := bcell hb; have hb1 := Lib.hid hb; clear hb) | (go_at_call 28; refine (isMass_calls _ _).mono ?_; rintro e w' ⟨rfl, rfl⟩) | (go_at_call 17; refine (within_calls _ _ _ _).mono ?_; rintro e w' ⟨rfl, rfl⟩))
            go_ret
            exact ⟨rfl, (((Below.refl _ _).alloc (Nat.le_refl _) _).trans (hb1.out.mono (by simp)))⟩

end Go.Proofs.YtkbjampfmcegpaaDoor
